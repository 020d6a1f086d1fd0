/-
  JournalsParse: texts of the proof, part 19.
-/
import Derived.Test.YtgjlofpfbhioaaaGreatDoorHX17
namespace Go.Proofs.YtgjlofpfbhioaaaGreatDoor
namespace Mini
open Go
variable {m : Int} {X : Ctx}
theorem yl71l (_hX : XOj m X) {N : Nat} {j a : List Nat} {l : List En} {used last bh : Nat} (hN : 1 ≤ N) (hl : l.length = 4096) :
    ∃ t, callN X N (.yld 6) [strV a, i64 (bh : Int)] (hp71 j l used last 0 true none) = some (bl false, hp71 j l used last 3 false (some .ret) ++ t) := by
  obtain ⟨N, rfl⟩ : ∃ M, N = M + 1 := ⟨N - 1, by omega⟩
  have g1 : ((l.length : Int) == 4096) = true := by rw [beq_iff_eq]; omega
  have p10 : apart (.c (.ptr 1 0 0)) (.c (.ptr 0 0 0)) = true := rfl
  have p20 : apart (.c (.ptr 2 0 0)) (.c (.ptr 0 0 0)) = true := rfl
  have p21 : apart (.c (.ptr 2 0 0)) (.c (.ptr 1 0 0)) = true := rfl
  unfold hp71
  generalize eC l = ec at *
  generalize l.length = n at *
  refine ⟨[], ?_⟩
  refine (callN_yld2 (X := X) (n := N) (id := 6) (p := 13) (p' := 14) (regs := regs71 j) (regs1 := regs71 j) (regs2 := regs71 j) (ps1 := [13, 14]) (ps2 := [13, 14]) (asg := fn71A) (body := fn71B) (asg1 := fn71A) (body1 := fn71B) (asg2 := fn71A) (body2 := fn71B) (s1 := ⟨[strV j, .c (.ptr 0 0 0), .c (.ptr 1 0 0), .c (.ptr 2 0 0), .c (.ptr 3 0 0), strV a, i64 (bh : Int), .any, .any, .any, .any, .any, .c fnLj, strV a, i64 (bh : Int), .any, .any, .any, .any], [.cells [.os 5 n 0 n 5 none] 0 false, .cells [.d (.int .i64 (used : Int))] 0 false, .cells [.d (.int .i64 (last : Int))] 0 false, .cells [.d (.int .i64 ((0 : Nat) : Int))] 0 false, .cells [.d (.str j)] 0 false, .cells ec n false, .loop true none (regs71 j) [13, 14] fn71A fn71B]⟩)
    (s2 := ⟨[strV j, .c (.ptr 0 0 0), .c (.ptr 1 0 0), .c (.ptr 2 0 0), .c (.ptr 3 0 0), strV a, i64 (bh : Int), .any, .any, .any, .any, .any, .c fnLj, strV a, i64 (bh : Int), bl true, .any, .any, .any], [.cells [.os 5 n 0 n 5 none] 0 false, .cells [.d (.int .i64 (used : Int))] 0 false, .cells [.d (.int .i64 (last : Int))] 0 false, .cells [.d (.int .i64 (3 : Int))] 0 false, .cells [.d (.str j)] 0 false, .cells ec n false, .loop false none (regs71 j) [13, 14] fn71A fn71B]⟩) (e := .ret) rfl ?_ rfl ?_ rfl).trans rfl
  · simp only [fn71A, evs]
  · simp only [fn71B, ob?, strV, splice, rg_ap, p10, p20, p21, g1, Int.cast_ofNat_Int, Option.map_none, Option.map_some, Nat.le_refl, List.take, List.drop, List.set_cons_zero, List.set_cons_succ, ↓sp_len, evs]
theorem yl71f (hX : XOj m X) {N : Nat} {j a : List Nat} {l : List En} {used last bh : Nat} {e : En} {st : Int} (hN : a.length + 600 ≤ N) (ha : a.length < 800000) (hl : l.length < 4096) (hr : readE a = (e, st, false)) :
    ∃ t, callN X N (.yld 6) [strV a, i64 (bh : Int)] (hp71 j l used last 0 true none) = some (bl false, hp71 j l used last 6 false (some .ret) ++ t) := by
  obtain ⟨N, rfl⟩ : ∃ M, N = M + 1 := ⟨N - 1, by omega⟩
  have g1 : ((l.length : Int) == 4096) = false := by rw [beq_eq_false_iff_ne]; omega
  have h99 := hX.vc (k := 99) (F := fn99) rfl (f99 hX (N := N) (s := a) (by omega) ha)
  rw [hr] at h99
  simp only [strV, i64, bl, En.ds, List.map_cons, List.map_nil] at h99
  have p10 : apart (.c (.ptr 1 0 0)) (.c (.ptr 0 0 0)) = true := rfl
  have p20 : apart (.c (.ptr 2 0 0)) (.c (.ptr 0 0 0)) = true := rfl
  have p21 : apart (.c (.ptr 2 0 0)) (.c (.ptr 1 0 0)) = true := rfl
  unfold hp71
  generalize eC l = ec at *
  generalize l.length = n at *
  refine ⟨[.cells [.d (.str e.s), .d (.bool e.acc), .d (.int .u8 (e.r : Int)), .d (.int .i64 e.t), .d e.w] 0 false], ?_⟩
  refine (callN_yld2 (X := X) (n := N) (id := 6) (p := 13) (p' := 14) (regs := regs71 j) (regs1 := regs71 j) (regs2 := regs71 j) (ps1 := [13, 14]) (ps2 := [13, 14]) (asg := fn71A) (body := fn71B) (asg1 := fn71A) (body1 := fn71B) (asg2 := fn71A) (body2 := fn71B) (s1 := ⟨[strV j, .c (.ptr 0 0 0), .c (.ptr 1 0 0), .c (.ptr 2 0 0), .c (.ptr 3 0 0), strV a, i64 (bh : Int), .any, .any, .any, .any, .any, .c fnLj, strV a, i64 (bh : Int), .any, .any, .any, .any], [.cells [.os 5 n 0 n 5 none] 0 false, .cells [.d (.int .i64 (used : Int))] 0 false, .cells [.d (.int .i64 (last : Int))] 0 false, .cells [.d (.int .i64 ((0 : Nat) : Int))] 0 false, .cells [.d (.str j)] 0 false, .cells ec n false, .loop true none (regs71 j) [13, 14] fn71A fn71B]⟩)
    (s2 := ⟨[strV j, .c (.ptr 0 0 0), .c (.ptr 1 0 0), .c (.ptr 2 0 0), .c (.ptr 3 0 0), strV a, i64 (bh : Int), .c (.ptr 7 0 0), i64 st, bl false, .any, .any, .c fnLj, strV a, i64 (bh : Int), bl false, bl true, .any, .any], [.cells [.os 5 n 0 n 5 none] 0 false, .cells [.d (.int .i64 (used : Int))] 0 false, .cells [.d (.int .i64 (last : Int))] 0 false, .cells [.d (.int .i64 (6 : Int))] 0 false, .cells [.d (.str j)] 0 false, .cells ec n false, .loop false none (regs71 j) [13, 14] fn71A fn71B, .cells [.d (.str e.s), .d (.bool e.acc), .d (.int .u8 (e.r : Int)), .d (.int .i64 e.t), .d e.w] 0 false]⟩) (e := .ret) rfl ?_ rfl ?_ rfl).trans rfl
  · simp only [fn71A, evs]
  · simp only [fn71B, ob?, strV, splice, rg_ap, p10, p20, p21, g1, h99, Int.cast_ofNat_Int, Option.map_none, Option.map_some, Nat.le_refl, Bool.not_false, List.take, List.drop, List.set_cons_zero, List.set_cons_succ, freeze_nil, reachV, reachC, ite_self, List.flatMap_cons, List.flatMap_nil, ↓sp_len, evs, Nat.reduceAdd]
theorem yl71c (hX : XOj m X) {N : Nat} {j a : List Nat} {l : List En} {used last bh : Nat} {e : En} {st : Int} (hN : a.length + 600 ≤ N) (ha : a.length < 800000) (hl : l.length < 4096) (hr : readE a = (e, st, true)) (hw : isSet e.w e.l) (hwl : wfS e.l) (hel : e.l.length < 1000000) (hes : e.s.length ≤ a.length) {c : Nat} (hc : e.chk = c) (hc0 : c ≠ 0) :
    ∃ t, callN X N (.yld 6) [strV a, i64 (bh : Int)] (hp71 j l used last 0 true none) = some (bl false, hp71 j l used last c false (some .ret) ++ t) := by
  obtain ⟨N, rfl⟩ : ∃ M, N = M + 1 := ⟨N - 1, by omega⟩
  have g1 : ((l.length : Int) == 4096) = false := by rw [beq_eq_false_iff_ne]; omega
  have h99 := hX.vc (k := 99) (F := fn99) rfl (f99 hX (N := N) (s := a) (by omega) ha)
  rw [hr] at h99
  simp only [strV, i64, bl, En.ds, List.map_cons, List.map_nil] at h99
  have h48 := hX.vc (k := 48) (F := fn48) rfl (f48 hX (N := N) (s := e.s) (acc := e.acc) (r := e.r) (t := e.t) (w := e.w) (l := e.l) (by omega) (by omega) hw hwl hel)
  have hc' : chkE e.s e.acc e.r e.t e.l = c := hc
  rw [hc'] at h48
  simp only [i64, enC] at h48
  have g2 : ((c : Int) != 0) = true := by rw [bne_iff_ne]; omega
  have p10 : apart (.c (.ptr 1 0 0)) (.c (.ptr 0 0 0)) = true := rfl
  have p20 : apart (.c (.ptr 2 0 0)) (.c (.ptr 0 0 0)) = true := rfl
  have p21 : apart (.c (.ptr 2 0 0)) (.c (.ptr 1 0 0)) = true := rfl
  unfold hp71
  generalize eC l = ec at *
  generalize l.length = n at *
  refine ⟨[.cells [.d (.str e.s), .d (.bool e.acc), .d (.int .u8 (e.r : Int)), .d (.int .i64 e.t), .d e.w] 0 false], ?_⟩
  refine (callN_yld2 (X := X) (n := N) (id := 6) (p := 13) (p' := 14) (regs := regs71 j) (regs1 := regs71 j) (regs2 := regs71 j) (ps1 := [13, 14]) (ps2 := [13, 14]) (asg := fn71A) (body := fn71B) (asg1 := fn71A) (body1 := fn71B) (asg2 := fn71A) (body2 := fn71B) (s1 := ⟨[strV j, .c (.ptr 0 0 0), .c (.ptr 1 0 0), .c (.ptr 2 0 0), .c (.ptr 3 0 0), strV a, i64 (bh : Int), .any, .any, .any, .any, .any, .c fnLj, strV a, i64 (bh : Int), .any, .any, .any, .any], [.cells [.os 5 n 0 n 5 none] 0 false, .cells [.d (.int .i64 (used : Int))] 0 false, .cells [.d (.int .i64 (last : Int))] 0 false, .cells [.d (.int .i64 ((0 : Nat) : Int))] 0 false, .cells [.d (.str j)] 0 false, .cells ec n false, .loop true none (regs71 j) [13, 14] fn71A fn71B]⟩)
    (s2 := ⟨[strV j, .c (.ptr 0 0 0), .c (.ptr 1 0 0), .c (.ptr 2 0 0), .c (.ptr 3 0 0), strV a, i64 (bh : Int), .c (.ptr 7 0 0), i64 st, bl true, i64 (c : Int), .any, .c fnLj, strV a, i64 (bh : Int), bl false, bl false, bl true, .any], [.cells [.os 5 n 0 n 5 none] 0 false, .cells [.d (.int .i64 (used : Int))] 0 false, .cells [.d (.int .i64 (last : Int))] 0 false, .cells [.d (.int .i64 (c : Int))] 0 false, .cells [.d (.str j)] 0 false, .cells ec n false, .loop false none (regs71 j) [13, 14] fn71A fn71B, .cells [.d (.str e.s), .d (.bool e.acc), .d (.int .u8 (e.r : Int)), .d (.int .i64 e.t), .d e.w] 0 false]⟩) (e := .ret) rfl ?_ rfl ?_ rfl).trans rfl
  · simp only [fn71A, evs]
  · simp only [fn71B, ob?, strV, splice, rg_ap, p10, p20, p21, g1, g2, h99, h48, Int.cast_ofNat_Int, Option.map_none, Option.map_some, Nat.le_refl, Bool.not_true, List.take, List.drop, List.map_cons, List.map_nil, List.set_cons_zero, List.set_cons_succ, freeze_nil, reachV, reachC, ite_self, List.flatMap_cons, List.flatMap_nil, ↓sp_len, evs, Nat.reduceAdd]
theorem yl71s (hX : XOj m X) {N : Nat} {j a : List Nat} {l : List En} {used last bh : Nat} {e : En} {st : Int} (hN : a.length + 600 ≤ N) (ha : a.length < 800000) (hl : l.length < 4096) (hr : readE a = (e, st, true)) (hw : isSet e.w e.l) (hwl : wfS e.l) (hel : e.l.length < 1000000) (hes : e.s.length ≤ a.length) {k : Nat} (hb : ∀ c ∈ a, c < 256) (hla : last < 65521) (hc : e.chk = 0) (hk : lidxN 32 a = some k) (hka : k ≤ a.length) (hst : ((sumN last (a.take k) : Nat) : Int) ≠ st) :
    ∃ t, callN X N (.yld 6) [strV a, i64 (bh : Int)] (hp71 j l used last 0 true none) = some (bl false, hp71 j l used last 24 false (some .ret) ++ t) := by
  obtain ⟨N, rfl⟩ : ∃ M, N = M + 1 := ⟨N - 1, by omega⟩
  have g1 : ((l.length : Int) == 4096) = false := by rw [beq_eq_false_iff_ne]; omega
  have h99 := hX.vc (k := 99) (F := fn99) rfl (f99 hX (N := N) (s := a) (by omega) ha)
  rw [hr] at h99
  simp only [strV, i64, bl, En.ds, List.map_cons, List.map_nil] at h99
  have h48 := hX.vc (k := 48) (F := fn48) rfl (f48 hX (N := N) (s := e.s) (acc := e.acc) (r := e.r) (t := e.t) (w := e.w) (l := e.l) (by omega) (by omega) hw hwl hel)
  have hc' : chkE e.s e.acc e.r e.t e.l = 0 := hc
  rw [hc'] at h48
  simp only [i64, enC, Int.natCast_zero] at h48
  have htk : (a.take k).length ≤ a.length := by rw [List.length_take]; omega
  have h74 := hX.vc (k := 74) (F := fn74) rfl (f74 hX (N := N) (s := a.take k) (a := last) (by omega) hla (fun c hcc => hb c (List.mem_of_mem_take hcc)) (by omega))
  have h100 : (zenv X N).prim 100 [.c (.d (.str a)), .c (.d (.int .u8 32))] = some (.c (.d (.int .i64 (k : Int)))) := by
    rw [zenv_pr]
    refine hX.prim ?_
    show (if (0 : Int) ≤ 32 ∧ a.length < 4611686018427387904 then some (I64 (oInt (lidxN (32 : Int).toNat a))) else none) = _
    rw [if_pos ⟨by omega, by omega⟩, show (32 : Int).toNat = 32 from rfl, hk]
    rfl
  have g0 : ((0 : Int) != 0) = false := rfl
  have g2 : (((sumN last (a.take k) : Nat) : Int) != st) = true := by rw [bne_iff_ne]; exact hst
  generalize sumN last (a.take k) = sm at *
  simp only [strV, i64] at h74
  have p10 : apart (.c (.ptr 1 0 0)) (.c (.ptr 0 0 0)) = true := rfl
  have p20 : apart (.c (.ptr 2 0 0)) (.c (.ptr 0 0 0)) = true := rfl
  have p21 : apart (.c (.ptr 2 0 0)) (.c (.ptr 1 0 0)) = true := rfl
  unfold hp71
  generalize eC l = ec at *
  generalize l.length = n at *
  refine ⟨[.cells [.d (.str e.s), .d (.bool e.acc), .d (.int .u8 (e.r : Int)), .d (.int .i64 e.t), .d e.w] 0 false], ?_⟩
  refine (callN_yld2 (X := X) (n := N) (id := 6) (p := 13) (p' := 14) (regs := regs71 j) (regs1 := regs71 j) (regs2 := regs71 j) (ps1 := [13, 14]) (ps2 := [13, 14]) (asg := fn71A) (body := fn71B) (asg1 := fn71A) (body1 := fn71B) (asg2 := fn71A) (body2 := fn71B) (s1 := ⟨[strV j, .c (.ptr 0 0 0), .c (.ptr 1 0 0), .c (.ptr 2 0 0), .c (.ptr 3 0 0), strV a, i64 (bh : Int), .any, .any, .any, .any, .any, .c fnLj, strV a, i64 (bh : Int), .any, .any, .any, .any], [.cells [.os 5 n 0 n 5 none] 0 false, .cells [.d (.int .i64 (used : Int))] 0 false, .cells [.d (.int .i64 (last : Int))] 0 false, .cells [.d (.int .i64 ((0 : Nat) : Int))] 0 false, .cells [.d (.str j)] 0 false, .cells ec n false, .loop true none (regs71 j) [13, 14] fn71A fn71B]⟩)
    (s2 := ⟨[strV j, .c (.ptr 0 0 0), .c (.ptr 1 0 0), .c (.ptr 2 0 0), .c (.ptr 3 0 0), strV a, i64 (bh : Int), .c (.ptr 7 0 0), i64 st, bl true, i64 0, i64 (sm : Int), .c fnLj, strV a, i64 (bh : Int), bl false, bl false, bl false, bl true], [.cells [.os 5 n 0 n 5 none] 0 false, .cells [.d (.int .i64 (used : Int))] 0 false, .cells [.d (.int .i64 (last : Int))] 0 false, .cells [.d (.int .i64 (24 : Int))] 0 false, .cells [.d (.str j)] 0 false, .cells ec n false, .loop false none (regs71 j) [13, 14] fn71A fn71B, .cells [.d (.str e.s), .d (.bool e.acc), .d (.int .u8 (e.r : Int)), .d (.int .i64 e.t), .d e.w] 0 false]⟩) (e := .ret) rfl ?_ rfl ?_ rfl).trans rfl
  · simp only [fn71A, evs]
  · simp only [fn71B, ob?, strV, optNat, splice, rg_ap, p10, p20, p21, g0, g1, g2, h99, h48, h74, h100, hka, Int.cast_ofNat_Int, Option.map_none, Option.map_some, Nat.zero_le, Nat.le_refl, Bool.not_true, List.take, List.drop, List.map_cons, List.map_nil, List.set_cons_zero, List.set_cons_succ, freeze_nil, reachV, reachC, ite_self, List.flatMap_cons, List.flatMap_nil, ↓sp_len, evs, Nat.reduceAdd]
end Mini
end Go.Proofs.YtgjlofpfbhioaaaGreatDoor
namespace Go.Proofs.YtgjlofpfbhioaaaGreatDoor
namespace Mini
open Go
variable {m : Int} {X : Ctx}
theorem lidx_none {c : Nat} : ∀ {s : List Nat}, lidxN c s = none → splitN c s = [s]
  | [], _ => rfl
  | x :: s, h => by
    unfold lidxN at h
    split at h
    · cases h
    · rename_i h2
      split at h
      · cases h
      · rename_i h3
        simp only [splitN, if_neg h3, lidx_none h2]
theorem lidx_lt {c : Nat} : ∀ {s : List Nat} {k : Nat}, lidxN c s = some k → k < s.length
  | [], _, h => by cases h
  | x :: s, k, h => by
    unfold lidxN at h
    split at h
    · rename_i k' h2
      cases h
      have := lidx_lt h2
      simp only [List.length_cons]; omega
    · split at h
      · cases h; simp
      · cases h
theorem readE_ok {s : List Nat} : isSet (readE s).1.w (readE s).1.l ∧ wfS (readE s).1.l ∧ (readE s).1.s.length ≤ s.length ∧ (readE s).1.l.length ≤ s.length + 1 ∧ ((readE s).2.2 = true → ∃ k, lidxN 32 s = some k ∧ k ≤ s.length) := by
  obtain ⟨h1, h2⟩ := splitN_len 32 s
  obtain ⟨h3, _⟩ := splitN_len 44 ((splitN 32 s).getD 2 [])
  have h4 := getD_len _ _ 2 h2
  have h5 := getD_len _ _ 0 h2
  have hz : isSet e0.w e0.l ∧ wfS e0.l ∧ e0.s.length ≤ s.length ∧ e0.l.length ≤ s.length + 1 ∧ (false = true → ∃ k, lidxN 32 s = some k ∧ k ≤ s.length) := ⟨.inl ⟨rfl, rfl⟩, (fun _ h => by cases h), Nat.zero_le _, Nat.zero_le _, fun h => by cases h⟩
  unfold readE
  by_cases c1 : (splitN 32 s).length < 4
  · rw [if_pos c1]; exact hz
  rw [if_neg c1]
  have hk : ∃ k, lidxN 32 s = some k ∧ k ≤ s.length := by
    cases hl : lidxN 32 s with
    | none =>
      rw [lidx_none hl] at c1
      exact absurd (by simp) c1
    | some k => exact ⟨k, rfl, Nat.le_of_lt (lidx_lt hl)⟩
  split
  · exact hz
  split
  · split
    · exact ⟨.inl ⟨rfl, rfl⟩, (fun _ h => by cases h), h5, Nat.zero_le _, fun _ => hk⟩
    split
    · refine ⟨.inr rfl, osP_wf _ _, h5, ?_, fun _ => hk⟩
      simp only [osJ]
      rw [osP_len _ (Nat.le_refl _)]
      omega
    · exact hz
  split
  · split
    · exact hz
    · exact ⟨.inl ⟨rfl, rfl⟩, (fun _ h => by cases h), h5, Nat.zero_le _, fun _ => hk⟩
  · exact hz
def sumL (la : Nat) (a : List Nat) : Nat := sumN la (a.take ((lidxN 32 a).getD 0))
def parseJ : Nat → List En → Nat → Nat → List Nat → List En × Nat × Nat × Nat
  | 0, l, u, la, _ => (l, u, la, 0)
  | f + 1, l, u, la, s => match idxN 10 s with
    | none => (l, u, la, 0)
    | some i =>
      if l.length = 4096 then (l, u, la, 3)
      else if (readE (s.take i)).2.2 = false then (l, u, la, 6)
      else if (readE (s.take i)).1.chk ≠ 0 then (l, u, la, (readE (s.take i)).1.chk)
      else if ((sumL la (s.take i) : Nat) : Int) ≠ (readE (s.take i)).2.1 then (l, u, la, 24)
      else parseJ f (l ++ [newE (readE (s.take i)).1]) (u + i + 1) (sumL la (s.take i)) (s.drop (i + 1))
abbrev R120 (u : Nat) : List V := [.c (.yld 6), .c (.ptr 4 0 0), i64 (u : Int), .any, .any]
theorem p121 (hX : XOj m X) {N : Nat} {s : List Nat} : (zenv X N).prim 121 [.c (.d (.str s)), .c (.d (.int .u8 10))] = some (.c (.d (.int .i64 (oInt (idxN 10 s))))) := by
  rw [zenv_pr]
  refine hX.prim ?_
  show (if (0 : Int) ≤ 10 ∧ (10 : Int) < 256 then some (I64 (oInt (idxN (10 : Int).toNat s))) else none) = _
  rw [if_pos ⟨by omega, by omega⟩]
  rfl
theorem r120_end (hX : XOj m X) {N : Nat} {j : List Nat} {l : List En} {u la : Nat} (_hj : j.length ≤ 1100000) (hu : u ≤ j.length) (hi : idxN 10 (j.drop u) = none) :
    ∃ r, exec (zenv X N) N false fn120L0 ⟨R120 u, hp71 j l u la 0 true none⟩ = some (.ret, ⟨r, hp71 j l u la 0 true none⟩) := by
  have hpc := p121 hX (N := N) (s := j.drop u)
  rw [hi] at hpc
  have h4 : (hp71 j l u la 0 true none)[4]? = some (.cells [.d (.str j)] 0 false) := rfl
  have ho : oInt none = -1 := rfl
  rw [ho] at hpc
  have k1 : (-1 : Int) < 0 := by omega
  have htk : j.take j.length = j := List.take_length
  generalize hp71 j l u la 0 true none = HH at *
  refine ⟨[.c (.yld 6), .c (.ptr 4 0 0), i64 (u : Int), i64 (-1), bl true], ?_⟩
  simp only [fn120L0, R120, optNat, hpc, h4, htk, hu, k1, Option.map_none, Option.map_some, Nat.le_refl, and_self, List.drop_zero, List.take, freeze_nil, reachV, reachC, ite_self, List.flatMap_cons, List.flatMap_nil, evs]
end Mini
end Go.Proofs.YtgjlofpfbhioaaaGreatDoor
namespace Go.Proofs.YtgjlofpfbhioaaaGreatDoor
namespace Mini
open Go
variable {m : Int} {X : Ctx}
theorem r120 (hX : XOj m X) {N : Nat} {j : List Nat} {u i : Nat} {HH H2 : Heap} {ok : Bool} (hj : j.length ≤ 1100000) (hu : u + i ≤ j.length) (hi : idxN 10 (j.drop u) = some i) (h4 : HH[4]? = some (.cells [.d (.str j)] 0 false)) (hy : callN X N (.yld 6) [strV ((j.drop u).take i), i64 ((u + i + 1 : Nat) : Int)] HH = some (bl ok, H2)) :
    ∃ r, exec (zenv X N) N false fn120L0 ⟨R120 u, HH⟩ = some (if ok then .nrm else .ret, ⟨r, H2⟩) ∧ (ok = true → keepOnly [0, 1, 2] 0 r = R120 (u + i + 1)) := by
  have hpc := p121 hX (N := N) (s := j.drop u)
  rw [hi] at hpc
  have ho : oInt (some i) = (i : Int) := rfl
  rw [ho] at hpc
  have k1 : ¬ (i : Int) < 0 := by omega
  have k2 : u ≤ j.length := by omega
  have k3 : u ≤ u + i := by omega
  have htk : j.take j.length = j := List.take_length
  have hsl : (j.take (u + i)).drop u = (j.drop u).take i := by rw [List.drop_take, Nat.add_sub_cancel_left]
  have w1 : IntKind.i64.wrap ((u : Int) + (i : Int)) = ((u + i : Nat) : Int) := by rw [← wrap_nat (k := u + i) (by omega)]; simp
  have w2 := wrap_succ (k := u + i) (by omega)
  have w3 := wrap_succ (k := i) (by omega)
  have w4 : IntKind.i64.wrap ((u : Int) + ((i + 1 : Nat) : Int)) = ((u + i + 1 : Nat) : Int) := by rw [← wrap_nat (k := u + i + 1) (by omega)]; congr 1
  generalize (j.drop u).take i = a at *
  simp only [strV, i64, bl] at hy
  cases ok
  · refine ⟨[.c (.yld 6), .c (.ptr 4 0 0), i64 (u : Int), i64 (i : Int), bl true], ?_, fun h => by cases h⟩
    simp only [fn120L0, R120, optNat, hpc, h4, htk, hsl, hy, k1, k2, k3, hu, w1, w2, Option.map_none, Option.map_some, Nat.le_refl, and_self, Bool.not_false, List.drop_zero, List.take, List.map_cons, List.map_nil, freeze_nil, reachV, reachC, ite_self, List.flatMap_cons, List.flatMap_nil, evs]
  · refine ⟨[.c (.yld 6), .c (.ptr 4 0 0), i64 ((u + i + 1 : Nat) : Int), i64 (i : Int), bl false], ?_, fun _ => rfl⟩
    simp only [fn120L0, R120, optNat, hpc, h4, htk, hsl, hy, k1, k2, k3, hu, w1, w2, w3, w4, Option.map_none, Option.map_some, Nat.le_refl, and_self, Bool.not_true, List.drop_zero, List.take, List.map_cons, List.map_nil, freeze_nil, reachV, reachC, ite_self, List.flatMap_cons, List.flatMap_nil, evs]
theorem eC_d (l : List En) : (eC l).all C.isD = true := by
  rw [List.all_eq_true]
  intro c hc
  obtain ⟨d, _, rfl⟩ := List.mem_map.1 hc
  rfl
theorem hp71_tidy {j : List Nat} {l : List En} {u la w : Nat} {t : Heap} {r : List V} (hr : keepOnly [0, 1, 2] 0 r = R120 w) : tidy 7 (some [0, 1, 2]) ⟨r, hp71 j l u la 0 true none ++ t⟩ = ⟨R120 w, hp71 j l u la 0 true none⟩ := by
  show gc 7 ⟨keepOnly [0, 1, 2] 0 r, _⟩ = _
  rw [hr]
  have hu := undersC_d 7 _ (eC_d l)
  refine gc_yes rfl ?_
  simp only [hp71, List.cons_append, List.nil_append, List.take_succ_cons, List.take_zero, List.all_cons, List.all_nil, Ob.under, hu, Bool.and_true, Bool.and_self]
  rfl
theorem idx_le {c : Nat} : ∀ {s : List Nat} {k : Nat}, idxN c s = some k → k < s.length
  | [], _, h => by cases h
  | x :: s, k, h => by
    unfold idxN at h
    split at h
    · cases h; simp
    · split at h
      · rename_i k' h2
        cases h
        have := idx_le h2
        simp only [List.length_cons]; omega
      · cases h
theorem it120 (hX : XOj m X) {N : Nat} {j : List Nat} (hN : j.length + 1000 ≤ N) (hj : j.length < 800000) (hb : ∀ c ∈ j, c < 256) : ∀ (f fuel : Nat) (l : List En) (u la : Nat), (j.drop u).length < f → f ≤ fuel → u ≤ j.length → l.length ≤ 4096 → la < 65521 →
    ∃ r H, iter (some [0, 1, 2]) 7 (exec (zenv X N) N false fn120L0) fuel ⟨R120 u, hp71 j l u la 0 true none⟩ = some (.ret, ⟨r, H⟩) ∧ ∃ t, H = (if (parseJ f l u la (j.drop u)).2.2.2 = 0 then hp71 j (parseJ f l u la (j.drop u)).1 (parseJ f l u la (j.drop u)).2.1 (parseJ f l u la (j.drop u)).2.2.1 0 true none else hp71 j (parseJ f l u la (j.drop u)).1 (parseJ f l u la (j.drop u)).2.1 (parseJ f l u la (j.drop u)).2.2.1 (parseJ f l u la (j.drop u)).2.2.2 false (some .ret)) ++ t := by
  intro f
  induction f with
  | zero => intro fuel l u la h; exact absurd h (Nat.not_lt_zero _)
  | succ f ih =>
    intro fuel l u la hf hfu hu hl hla
    obtain ⟨fuel, rfl⟩ : ∃ k, fuel = k + 1 := ⟨fuel - 1, by omega⟩
    have out : ∀ {s' : St} {st : St}, exec (zenv X N) N false fn120L0 st = some (.ret, s') → iter (some [0, 1, 2]) 7 (exec (zenv X N) N false fn120L0) (fuel + 1) st = some (.ret, s') := by
      intro s' st h
      simp only [iter, h]
    unfold parseJ
    cases hi : idxN 10 (j.drop u) with
    | none =>
      obtain ⟨r, h1⟩ := r120_end hX (N := N) (l := l) (la := la) (by omega) hu hi
      exact ⟨r, _, out h1, [], by simp⟩
    | some i =>
      have hil := idx_le hi
      rw [List.length_drop] at hil hf
      have h4 : (hp71 j l u la 0 true none)[4]? = some (.cells [.d (.str j)] 0 false) := rfl
      have hal : ((j.drop u).take i).length ≤ j.length := by rw [List.length_take, List.length_drop]; omega
      have hab : ∀ c ∈ (j.drop u).take i, c < 256 := fun c hc => hb c (List.mem_of_mem_drop (List.mem_of_mem_take hc))
      obtain ⟨e1, e2, e3, e4, e5⟩ := readE_ok (s := (j.drop u).take i)
      have bad : ∀ {H2 : Heap} (c : Nat), c ≠ 0 → callN X N (.yld 6) [strV ((j.drop u).take i), i64 ((u + i + 1 : Nat) : Int)] (hp71 j l u la 0 true none) = some (bl false, hp71 j l u la c false (some .ret) ++ H2) → ∃ r H, iter (some [0, 1, 2]) 7 (exec (zenv X N) N false fn120L0) (fuel + 1) ⟨R120 u, hp71 j l u la 0 true none⟩ = some (.ret, ⟨r, H⟩) ∧ ∃ t, H = (if c = 0 then hp71 j l u la 0 true none else hp71 j l u la c false (some .ret)) ++ t := by
        intro H2 c hc hy
        obtain ⟨r, h1, _⟩ := r120 hX (N := N) (by omega) (by omega) hi h4 hy
        exact ⟨r, _, out h1, H2, by rw [if_neg hc]⟩
      simp only
      by_cases c1 : l.length = 4096
      · rw [if_pos c1]
        obtain ⟨t, hy⟩ := yl71l hX (N := N) (j := j) (a := (j.drop u).take i) (l := l) (used := u) (last := la) (bh := u + i + 1) (by omega) c1
        exact bad 3 (by omega) hy
      rw [if_neg c1]
      by_cases c2 : (readE ((j.drop u).take i)).2.2 = false
      · rw [if_pos c2]
        obtain ⟨t, hy⟩ := yl71f hX (N := N) (j := j) (a := (j.drop u).take i) (l := l) (used := u) (last := la) (bh := u + i + 1) (e := (readE ((j.drop u).take i)).1) (st := (readE ((j.drop u).take i)).2.1) (by omega) (by omega) (by omega) (by rw [← c2])
        exact bad 6 (by omega) hy
      rw [if_neg c2]
      have hrt : (readE ((j.drop u).take i)).2.2 = true := by simpa using c2
      have hr : readE ((j.drop u).take i) = ((readE ((j.drop u).take i)).1, (readE ((j.drop u).take i)).2.1, true) := by rw [← hrt]
      obtain ⟨k, hk, hka⟩ := e5 hrt
      by_cases c3 : (readE ((j.drop u).take i)).1.chk ≠ 0
      · rw [if_pos c3]
        obtain ⟨t, hy⟩ := yl71c hX (N := N) (j := j) (a := (j.drop u).take i) (l := l) (used := u) (last := la) (bh := u + i + 1) (by omega) (by omega) (by omega) hr e1 e2 (by omega) e3 rfl c3
        exact bad _ c3 hy
      rw [if_neg c3]
      have c3' : (readE ((j.drop u).take i)).1.chk = 0 := Decidable.not_not.1 c3
      have hsm : sumL la ((j.drop u).take i) = sumN la (((j.drop u).take i).take k) := by unfold sumL; rw [hk]; rfl
      rw [hsm]
      by_cases c4 : ((sumN la (((j.drop u).take i).take k) : Nat) : Int) ≠ (readE ((j.drop u).take i)).2.1
      · rw [if_pos c4]
        obtain ⟨t, hy⟩ := yl71s hX (N := N) (j := j) (a := (j.drop u).take i) (l := l) (used := u) (last := la) (bh := u + i + 1) (by omega) (by omega) (by omega) hr e1 e2 (by omega) e3 hab hla c3' hk hka c4
        exact bad 24 (by omega) hy
      rw [if_neg c4]
      obtain ⟨t, hy⟩ := yl71 hX (N := N) (j := j) (a := (j.drop u).take i) (l := l) (used := u) (last := la) (k := k) (bh := u + i + 1) (by omega) (by omega) hab (by omega) hla hr e1 e2 (by omega) e3 c3' hk hka (Decidable.not_not.1 c4)
      obtain ⟨r, h1, h2⟩ := r120 hX (N := N) (by omega) (by omega) hi h4 hy
      have hdd : (j.drop u).drop (i + 1) = j.drop (u + i + 1) := by rw [List.drop_drop]; congr 1
      rw [hdd]
      obtain ⟨r2, H, h3, h5⟩ := ih fuel (l ++ [newE (readE ((j.drop u).take i)).1]) (u + i + 1) (sumN la (((j.drop u).take i).take k)) (by rw [List.length_drop]; omega) (by omega) (by omega) (by rw [List.length_append, List.length_singleton]; omega) (sumN_lt _ hla)
      refine ⟨r2, H, ?_, h5⟩
      rw [iter_step h1, hp71_tidy (h2 rfl)]
      exact h3
end Mini
end Go.Proofs.YtgjlofpfbhioaaaGreatDoor
namespace Go.Proofs.YtgjlofpfbhioaaaGreatDoor
namespace Mini
open Go
variable {m : Int} {X : Ctx}
theorem f98 (hX : XOj m X) {N : Nat} (hN : 1 ≤ N) {j : List Nat} {H : Heap} : callN X N (.d (.fn 98 [] [])) [strV j] H = some (.c (.fn 120 [] [.ptr H.length 0 0]), H ++ [.cells [.d (.str j)] 0 false]) := by
  obtain ⟨N, rfl⟩ : ∃ M, N = M + 1 := ⟨N - 1, by omega⟩
  rw [hX.fn (F := fn98) rfl]
  refine (rf_fin _ _ _ _ _ _ _ _ _ (by rfl)).trans ?_
  simp only [strV, V.one, evs, Nat.reduceSub]
theorem c120 (hX : XOj m X) {N : Nat} {j : List Nat} (hN : j.length + 1010 ≤ N) (hj : j.length < 800000) (hb : ∀ c ∈ j, c < 256) : ∃ H, callN X N fnLj [.c (.yld 6)] (hp71 j [] 0 0 0 true none) = some (.tup [], H) ∧ ∃ t, H = (if (parseJ (j.length + 1) [] 0 0 j).2.2.2 = 0 then hp71 j (parseJ (j.length + 1) [] 0 0 j).1 (parseJ (j.length + 1) [] 0 0 j).2.1 (parseJ (j.length + 1) [] 0 0 j).2.2.1 0 true none else hp71 j (parseJ (j.length + 1) [] 0 0 j).1 (parseJ (j.length + 1) [] 0 0 j).2.1 (parseJ (j.length + 1) [] 0 0 j).2.2.1 (parseJ (j.length + 1) [] 0 0 j).2.2.2 false (some .ret)) ++ t := by
  obtain ⟨N, rfl⟩ : ∃ M, N = M + 1 := ⟨N - 1, by omega⟩
  have hF : fnsX 120 = some fn120' := rfl
  have hcall : callN X (N + 1) fnLj [.c (.yld 6)] (hp71 j [] 0 0 0 true none) = runFn (zenv X N) N fn120' [.c (.yld 6), .c (.ptr 4 0 0)] (hp71 j [] 0 0 0 true none) := callN_fnc (CtxLe.fns (X := XJ m) hX hF)
  obtain ⟨r, H, hit, ht⟩ := it120 hX (N := N) (j := j) (by omega) hj hb (j.length + 1) N [] 0 0 (by rw [List.drop_zero]; omega) (by omega) (Nat.zero_le _) (by simp) (by decide)
  rw [List.drop_zero] at ht
  refine ⟨H, ?_, ht⟩
  rw [hcall]
  have hlen : (hp71 j [] 0 0 0 true none).length = 7 := rfl
  simp only [R120, i64, Int.natCast_zero] at hit
  generalize hp71 j [] 0 0 0 true none = HH at *
  refine (rf_fin _ _ _ _ _ _ _ _ _ (by rfl)).trans ?_
  simp only [hlen, hit, evs, Nat.reduceAdd, Nat.reduceBEq, Nat.reduceSub]
theorem f71 (hX : XOj m X) {N : Nat} {j : List Nat} (hN : j.length + 1100 ≤ N) (hj : j.length < 800000) (hb : ∀ c ∈ j, c < 256) : ∃ H, callN X N (.d (.fn 71 [] [])) [strV j] [] = some (.tup [.c (.os 5 (parseJ (j.length + 1) [] 0 0 j).1.length 0 (parseJ (j.length + 1) [] 0 0 j).1.length 5 none), i64 (parseJ (j.length + 1) [] 0 0 j).2.1, i64 (parseJ (j.length + 1) [] 0 0 j).2.2.1, i64 (parseJ (j.length + 1) [] 0 0 j).2.2.2], H) ∧ H[5]? = some (.cells (eC (parseJ (j.length + 1) [] 0 0 j).1) (parseJ (j.length + 1) [] 0 0 j).1.length false) := by
  obtain ⟨N, rfl⟩ : ∃ M, N = M + 1 := ⟨N - 1, by omega⟩
  have hF : fnsX 71 = some fn71'' := rfl
  obtain ⟨H, hc, t, rfl⟩ := c120 hX (N := N) (j := j) (by omega) hj hb
  have h98 := f98 hX (N := N) (by omega) (j := j) (H := [.cells [.d .nils] 0 false, .cells [.d (.int .i64 0)] 0 false, .cells [.d (.int .i64 0)] 0 false, .cells [.d (.int .i64 0)] 0 false])
  simp only [strV] at h98
  have hfr : exec (zenv X N) N false (.fresh 1 (some 0) 5) ⟨regs71 j, [.cells [.d .nils] 0 false, .cells [.d (.int .i64 0)] 0 false, .cells [.d (.int .i64 0)] 0 false, .cells [.d (.int .i64 0)] 0 false, .cells [.d (.str j)] 0 false]⟩ = some (.nrm, ⟨regs71 j, [.cells [.os 5 0 0 0 5 none] 0 false, .cells [.d (.int .i64 0)] 0 false, .cells [.d (.int .i64 0)] 0 false, .cells [.d (.int .i64 0)] 0 false, .cells [.d (.str j)] 0 false, .cells [] 0 false]⟩) := rfl
  have p10 : apart (.c (.ptr 1 0 0)) (.c (.ptr 0 0 0)) = true := rfl
  have p20 : apart (.c (.ptr 2 0 0)) (.c (.ptr 0 0 0)) = true := rfl
  have p21 : apart (.c (.ptr 2 0 0)) (.c (.ptr 1 0 0)) = true := rfl
  generalize parseJ (j.length + 1) [] 0 0 j = P at *
  obtain ⟨l, u, la, er⟩ := P
  simp only at hc ⊢
  rw [hX.fn hF]
  by_cases h0 : er = 0
  · rw [if_pos h0] at hc
    subst h0
    have hrf := ex_rf (E := zenv X N) (N := N) (f := .r 12) (ps := [13, 14]) (asg := fn71A) (body := fn71B) (regs := regs71 j) (H := [.cells [.os 5 0 0 0 5 none] 0 false, .cells [.d (.int .i64 0)] 0 false, .cells [.d (.int .i64 0)] 0 false, .cells [.d (.int .i64 0)] 0 false, .cells [.d (.str j)] 0 false, .cells [] 0 false]) (x := fnLj) rfl rfl hc rfl
    unfold hp71 at hrf
    generalize eC l = ec at *
    generalize l.length = n at *
    refine ⟨[.cells [.os 5 n 0 n 5 none] 0 false, .cells [.d (.int .i64 (u : Int))] 0 false, .cells [.d (.int .i64 (la : Int))] 0 false, .cells [.d (.int .i64 0)] 0 false, .cells [.d (.str j)] 0 false, .cells ec n false, .dead] ++ t, ?_, rfl⟩
    refine (rf_fin _ _ _ _ _ _ _ _ _ (by rfl)).trans ?_
    simp only [strV, regs71, List.length_cons, List.length_nil, Nat.reduceAdd, List.cons_append, List.nil_append, List.set_cons_zero, List.set_cons_succ, Int.natCast_zero] at hrf hfr
    simp only [ob?, strV, splice, rg_ap, p10, p20, p21, h98, hfr, hrf, Int.natCast_zero, List.take, List.drop, List.map_cons, List.map_nil, List.set_cons_zero, List.set_cons_succ, evs, Nat.reduceAdd, Nat.reduceLeDiff, Nat.reduceSub]
  · rw [if_neg h0] at hc
    have hrf := ex_rf_out (E := zenv X N) (N := N) (f := .r 12) (ps := [13, 14]) (asg := fn71A) (body := fn71B) (regs := regs71 j) (H := [.cells [.os 5 0 0 0 5 none] 0 false, .cells [.d (.int .i64 0)] 0 false, .cells [.d (.int .i64 0)] 0 false, .cells [.d (.int .i64 0)] 0 false, .cells [.d (.str j)] 0 false, .cells [] 0 false]) (x := fnLj) (e := .ret) rfl rfl hc rfl
    unfold hp71 at hrf
    generalize eC l = ec at *
    generalize l.length = n at *
    refine ⟨[.cells [.os 5 n 0 n 5 none] 0 false, .cells [.d (.int .i64 (u : Int))] 0 false, .cells [.d (.int .i64 (la : Int))] 0 false, .cells [.d (.int .i64 (er : Int))] 0 false, .cells [.d (.str j)] 0 false, .cells ec n false, .dead] ++ t, ?_, rfl⟩
    refine (rf_fin _ _ _ _ _ _ _ _ _ (by rfl)).trans ?_
    simp only [strV, regs71, List.length_cons, List.length_nil, Nat.reduceAdd, List.cons_append, List.nil_append, List.set_cons_zero, List.set_cons_succ] at hrf hfr
    simp only [ob?, strV, h98, hfr, hrf, List.take, List.drop, List.map_cons, List.map_nil, evs, Nat.reduceAdd, Nat.reduceSub]
end Mini
end Go.Proofs.YtgjlofpfbhioaaaGreatDoor
namespace Go.Proofs.YtgjlofpfbhioaaaGreatDoor
namespace Mini
open Go
variable {m : Int} {X : Ctx}
abbrev pJ (j : List Nat) : List En × Nat × Nat × Nat := parseJ (j.length + 1) [] 0 0 j
theorem f75 (hX : XOj m X) {N : Nat} (hN : 1 ≤ N) {id g n : Nat} {H : Heap} : callN X N (.d (.fn 75 [] [])) [.c (.os id g 0 n 5 none)] H = some (.c (.os id g 0 n 5 (some n)), H) := by
  obtain ⟨N, rfl⟩ : ∃ M, N = M + 1 := ⟨N - 1, by omega⟩
  rw [hX.fn (F := fn75) rfl]
  refine (rf_fin _ _ _ _ _ _ _ _ _ (by rfl)).trans ?_
  simp only [optNat, Option.map_none, Option.map_some, Option.getD_none, Nat.zero_le, Nat.le_refl, Nat.sub_zero, ↓sp_len, evs, Nat.reduceMul, Nat.reduceSub]
theorem f37 (hX : XOj m X) {N : Nat} {j : List Nat} (hN : j.length + 1200 ≤ N) (hj : j.length < 800000) (hb : ∀ c ∈ j, c < 256) (hl : (pJ j).1.length ≤ 4096) : ∃ H, callN X N (.d (.fn 37 [] [])) [strV j] [] = some (if (pJ j).2.2.2 = 0 then .tup [.c (.os 5 (pJ j).1.length 0 (pJ j).1.length 5 (some (pJ j).1.length)), i64 (pJ j).2.1, i64 0, i64 0] else .tup [.c (.d .nils), i64 0, i64 ((pJ j).1.length + 1 : Nat), i64 (pJ j).2.2.2], H) ∧ H[5]? = some (.cells (eC (pJ j).1) (pJ j).1.length false) := by
  obtain ⟨N, rfl⟩ : ∃ M, N = M + 1 := ⟨N - 1, by omega⟩
  have hF : fnsX 37 = some fn37' := rfl
  obtain ⟨H, h71, h5⟩ := f71 hX (N := N) (j := j) (by omega) hj hb
  have h75 := f75 hX (N := N) (by omega) (id := 5) (g := (pJ j).1.length) (n := (pJ j).1.length) (H := H)
  have hc : ¬ (j.length : Int) > 1048576 := by omega
  have hw := wrap_succ (k := (pJ j).1.length) (by omega)
  refine ⟨H, ?_, h5⟩
  rw [hX.fn hF]
  refine (rf_fin _ _ _ _ _ _ _ _ _ (by rfl)).trans ?_
  unfold pJ at *
  generalize (parseJ (j.length + 1) [] 0 0 j).1.length = n at *
  generalize (parseJ (j.length + 1) [] 0 0 j).2.1 = u at *
  generalize (parseJ (j.length + 1) [] 0 0 j).2.2.1 = la at *
  generalize (parseJ (j.length + 1) [] 0 0 j).2.2.2 = er at *
  simp only [strV, i64] at h71
  by_cases h0 : er = 0
  · subst h0
    rw [if_pos rfl]
    have g0 : ((0 : Int) != 0) = false := rfl
    simp only [strV, hc, h71, h75, g0, Int.natCast_zero, List.map_cons, List.map_nil, evs, Nat.reduceSub]
  · rw [if_neg h0]
    have g0 : ((er : Int) != 0) = true := by rw [bne_iff_ne]; omega
    simp only [strV, hc, h71, hw, g0, List.map_cons, List.map_nil, ↓sp_len, evs, Nat.reduceSub]
end Mini
end Go.Proofs.YtgjlofpfbhioaaaGreatDoor
namespace Go.Proofs.YtgjlofpfbhioaaaGreatDoor
namespace Mini
open Go
variable {m : Int} {X : Ctx}
theorem deep_en {H : Heap} {id g n : Nat} {l : List En} {f : Bool} {c : Option Nat} (hH : H[id]? = some (.cells (eC l) g f)) (hn : l.length = n) : deepC H deepMax (.os id g 0 n 5 c) = some (.sl (l.flatMap En.ds) n) := by
  have hal := eC_len l
  have p2 : ((eC l).drop 0).take (n * 5) = (l.flatMap En.ds).map .d := by
    rw [List.drop_zero, List.take_of_length_le (by omega)]; rfl
  have p1 : 0 + n * 5 ≤ (eC l).length := by omega
  simp only [deepMax, deepC, ob_eq, hH, if_true, if_pos p1, p2, mapO_d, Option.map_some]
theorem v71 (hX : XOj m X) {N : Nat} {j : List Nat} (hN : j.length + 1100 ≤ N) (hj : j.length < 800000) (hb : ∀ c ∈ j, c < 256) : (zenv X N).vcall 71 [strV j] = some (.tup [.c (.d (.sl ((pJ j).1.flatMap En.ds) (pJ j).1.length)), i64 (pJ j).2.1, i64 (pJ j).2.2.1, i64 (pJ j).2.2.2]) := by
  obtain ⟨H, h71, h5⟩ := f71 hX hN hj hb
  have hdp := deep_en (c := none) h5 rfl
  refine hX.vc (k := 71) (F := fn71) rfl (vcall_of h71 ?_)
  simp only [deepV, mapO, deepV1, hdp, Option.map_some, i64]
  rfl
end Mini
end Go.Proofs.YtgjlofpfbhioaaaGreatDoor
namespace Go.Proofs.YtgjlofpfbhioaaaGreatDoor
namespace Mini
open Go
variable {m : Int} {X : Ctx}
theorem f76 (hX : XOj m X) {N : Nat} {s : List Nat} {k : Nat} (hN : 30 ≤ N) (hk : k ≤ 10) (hs : s.length < 1000000) (hby : ∀ c ∈ s, c < 256) : vcallN X N 76 [strV s, i64 (k : Int)] = some (i64 (numS s k)) := by
  obtain ⟨N, rfl⟩ : ∃ M, N = M + 1 := ⟨N - 1, by omega⟩
  have hF : fnsX 76 = some fn76' := rfl
  suffices hh : ∃ H, callN X (N + 1) (.d (.fn 76 [] [])) [strV s, i64 (k : Int)] [] = some (i64 (numS s k), H) by
    obtain ⟨H, hh⟩ := hh
    exact vcall_of hh rfl
  rw [hX.fn hF]
  by_cases c1 : (s.length : Int) < 1
  · have g1 : s = [] := List.length_eq_zero_iff.1 (by omega)
    subst g1
    refine ⟨[], (rf_fin _ _ _ _ _ _ _ _ _ (by rfl)).trans ?_⟩
    have : numS [] k = -1 := by unfold numS; rw [if_pos (.inl rfl)]
    rw [this]
    have c1' : (0 : Int) < 1 := by omega
    simp only [strV, c1', Int.natCast_zero, evs, Nat.reduceAdd, Nat.reduceSub]
  have hne : s ≠ [] := fun h => by subst h; simp at c1
  by_cases c2 : (s.length : Int) > (k : Int)
  · refine ⟨[], (rf_fin _ _ _ _ _ _ _ _ _ (by rfl)).trans ?_⟩
    have : numS s k = -1 := by unfold numS; rw [if_pos (.inr (.inl (by omega)))]
    rw [this]
    simp only [strV, c1, c2, evs, Nat.reduceAdd, Nat.reduceSub]
  have h3 : s[0]? = some (s.getD 0 0) := by rw [List.getD_eq_getElem?_getD, List.getElem?_eq_getElem (by omega)]; rfl
  by_cases c3 : s.getD 0 0 = 48 ∧ (s.length : Int) > 1
  · refine ⟨[], (rf_fin _ _ _ _ _ _ _ _ _ (by rfl)).trans ?_⟩
    have : numS s k = -1 := by unfold numS; rw [if_pos (.inr (.inr ⟨by omega, c3.1⟩))]
    rw [this]
    rw [c3.1] at h3
    have g2 : (((48 : Nat) : Int) == 48) = true := rfl
    simp only [strV, g2, c1, c2, c3.2, h3, evs, Nat.reduceAdd, Nat.reduceSub]
  have hoff : ¬ (s = [] ∨ (k : Int) < s.length ∨ (1 < s.length ∧ s.getD 0 0 = 48)) := by
    rintro (h | h | h)
    · exact hne h
    · omega
    · exact c3 ⟨h.2, by omega⟩
  have hsc := iter_find (js := some [0, 3, 4]) (hl := 0) (body := exec (zenv X N) N false fn76L0) (fun j => isDig (s.getD j 0) = false) s.length (fun j => ⟨[strV s, .any, .any, i64 (numN 0 (s.take j) : Int), i64 (j : Int), .any, .any, .any], []⟩) (b := 0) (s1 := ⟨[strV s, .any, .any, i64 (numN 0 (s.take s.length) : Int), i64 (s.length : Int), .any, bl false, .any], []⟩) (Q := fun k s => nth s.regs 2 = i64 (-1)) (fuel := N) (by omega)
    (by
      intro j hj hp
      have hp : isDig (s.getD j 0) = true := by simpa using hp
      have q0 : s[j]? = some (s.getD j 0) := by rw [List.getD_eq_getElem?_getD, List.getElem?_eq_getElem hj]; rfl
      have q1 : numN 0 (s.take (j + 1)) = 10 * numN 0 (s.take j) + (s.getD j 0 - 48) := by
        rw [List.take_add_one, q0]
        exact numN_snoc _ _
      have hb : 48 ≤ s.getD j 0 ∧ s.getD j 0 ≤ 57 := by
        simpa [isDig, Nat.ble_eq] using hp
      have q2 : (j : Int) < (s.length : Int) := by omega
      have q3 := wrap_succ (k := j) (by omega)
      have q4 := numN_crude (s.take j) 0 (fun c hc => hby c (List.mem_of_mem_take hc))
      have q5 : (s.take j).length ≤ 9 := by rw [List.length_take]; omega
      have q6 : (0 + 30) * 10 ^ (s.take j).length ≤ (0 + 30) * 10 ^ 9 := Nat.mul_le_mul_left _ (Nat.pow_le_pow_right (by omega) q5)
      have q6 : numN 0 (s.take j) < 1000000000000 := by
        have : (0 + 30) * 10 ^ 9 = 30000000000 := rfl
        omega
      rw [q1]
      generalize numN 0 (s.take j) = acc at *
      generalize s.getD j 0 = c at *
      have q7 : IntKind.i64.wrap (10 * (acc : Int)) = ((10 * acc : Nat) : Int) := by
        rw [← wrap_nat (k := 10 * acc) (by omega)]; rfl
      have q8 : IntKind.u8.wrap ((c : Int) - 48) = ((c - 48 : Nat) : Int) := by
        rw [← wrap_u8 (n := c - 48) (by omega)]; congr 1; omega
      have q9 : IntKind.i64.wrap ((c - 48 : Nat) : Int) = ((c - 48 : Nat) : Int) := wrap_nat (by omega)
      have q10 : IntKind.i64.wrap (((10 * acc : Nat) : Int) + ((c - 48 : Nat) : Int)) = ((10 * acc + (c - 48) : Nat) : Int) := by
        rw [← wrap_nat (k := 10 * acc + (c - 48)) (by omega)]; rfl
      have q11 : ¬ (c : Int) < 48 := by omega
      have q12 : ¬ (c : Int) > 57 := by omega
      refine ⟨⟨[strV s, .any, .any, i64 ((10 * acc + (c - 48) : Nat) : Int), i64 ((j + 1 : Nat) : Int), .any, bl true, bl false], []⟩, ?_, gc_le (Nat.le_refl 0)⟩
      simp only [fn76L0, strV, q0, q2, q3, q7, q8, q9, q10, q11, q12, evs])
    (by simp only [fn76L0, strV, evs])
    (by
      intro j hj hp
      have q0 : s[j]? = some (s.getD j 0) := by rw [List.getD_eq_getElem?_getD, List.getElem?_eq_getElem hj]; rfl
      have q2 : (j : Int) < (s.length : Int) := by omega
      by_cases c4 : (s.getD j 0 : Int) < 48
      · refine ⟨⟨[strV s, .any, i64 (-1), i64 (numN 0 (s.take j) : Int), i64 (j : Int), .any, bl true, bl true], []⟩, ?_, rfl⟩
        simp only [fn76L0, strV, q0, q2, c4, evs]
      · have c5 : (s.getD j 0 : Int) > 57 := by
          have : ¬ isDig (s.getD j 0) = true := by rw [hp]; simp
          simp only [isDig, Bool.and_eq_true, Nat.ble_eq] at this
          omega
        refine ⟨⟨[strV s, .any, i64 (-1), i64 (numN 0 (s.take j) : Int), i64 (j : Int), .any, bl true, bl true], []⟩, ?_, rfl⟩
        simp only [fn76L0, strV, q0, q2, c4, c5, evs])
  have n0 : numN 0 [] = 0 := rfl
  simp only [i64, bl, strV, List.take_zero, List.take_length, n0, Int.natCast_zero] at hsc
  have g2 : (s.length : Int) > 1 → ((s.getD 0 0 : Int) == 48) = false := fun h1 => by
    rw [beq_eq_false_iff_ne]
    intro h
    exact c3 ⟨by omega, h1⟩
  rcases hsc with ⟨hno, hit⟩ | ⟨k, s', hk, hp, hno, hq, hit⟩
  · have hall : s.all isDig = true := by
      rw [List.all_eq_true]
      intro c hc
      obtain ⟨i, hi, rfl⟩ := List.getElem_of_mem hc
      have := hno i hi
      rw [List.getD_eq_getElem?_getD, List.getElem?_eq_getElem hi, Option.getD_some] at this
      simpa using this
    have : numS s k = (numN 0 s : Nat) := by
      unfold numS
      rw [if_neg hoff, if_pos hall]
    rw [this]
    refine ⟨[], (rf_fin _ _ _ _ _ _ _ _ _ (by rfl)).trans ?_⟩
    by_cases c6 : (s.length : Int) > 1
    · have g2 := g2 c6
      simp only [strV, g2, c1, c2, h3, hit, evs, Nat.reduceAdd, Nat.reduceBEq, Nat.reduceSub]
    · cases c7 : ((s.getD 0 0 : Int) == 48)
      · simp only [strV, c7, c1, c2, h3, hit, evs, Nat.reduceAdd, Nat.reduceBEq, Nat.reduceSub]
      · simp only [strV, c7, c1, c2, c6, h3, hit, evs, Nat.reduceAdd, Nat.reduceBEq, Nat.reduceSub]
  · have hall : ¬ s.all isDig = true := by
      intro h
      rw [List.all_eq_true] at h
      have := h _ (List.getElem_mem hk)
      rw [List.getD_eq_getElem?_getD, List.getElem?_eq_getElem hk, Option.getD_some] at hp
      rw [hp] at this; cases this
    rename_i kk _
    have : numS s kk = -1 := by
      unfold numS
      rw [if_neg hoff, if_neg hall]
    rw [this]
    refine ⟨s'.heap, (rf_fin _ _ _ _ _ _ _ _ _ (by rfl)).trans ?_⟩
    obtain ⟨r, H⟩ := s'
    simp only [] at hq
    by_cases c6 : (s.length : Int) > 1
    · have g2 := g2 c6
      simp only [strV, g2, c1, c2, h3, hit, hq, evs, Nat.reduceAdd, Nat.reduceBEq, Nat.reduceSub]
    · cases c7 : ((s.getD 0 0 : Int) == 48)
      · simp only [strV, c7, c1, c2, h3, hit, hq, evs, Nat.reduceAdd, Nat.reduceBEq, Nat.reduceSub]
      · simp only [strV, c7, c1, c2, c6, h3, hit, hq, evs, Nat.reduceAdd, Nat.reduceBEq, Nat.reduceSub]
def parV (j : List Nat) : V := if (pJ j).2.2.2 = 0 then .tup [.c (.d (.sl ((pJ j).1.flatMap En.ds) (pJ j).1.length)), i64 (pJ j).2.1, i64 0, i64 0] else .tup [.c (.d .nils), i64 0, i64 ((pJ j).1.length + 1 : Nat), i64 (pJ j).2.2.2]
theorem v37 (hX : XOj m X) {N : Nat} {j : List Nat} (hN : j.length + 1200 ≤ N) (hj : j.length < 800000) (hb : ∀ c ∈ j, c < 256) (hl : (pJ j).1.length ≤ 4096) : (zenv X N).vcall 37 [strV j] = some (parV j) := by
  obtain ⟨H, h37, h5⟩ := f37 hX hN hj hb hl
  refine hX.vc (k := 37) (F := fn37) rfl (vcall_of h37 ?_)
  unfold parV
  split
  · have hdp := deep_en (c := some (pJ j).1.length) h5 rfl
    simp only [deepV, mapO, deepV1, hdp, Option.map_some, i64]
    rfl
  · rfl
theorem parseJ_used : ∀ (f : Nat) (l : List En) (u la : Nat) (s : List Nat), (parseJ f l u la s).2.1 ≤ u + s.length
  | 0, _, _, _, _ => Nat.le_add_right _ _
  | f + 1, l, u, la, s => by
    unfold parseJ
    cases hi : idxN 10 s with
    | none => exact Nat.le_add_right _ _
    | some i =>
      have hil := idx_le hi
      have ih := parseJ_used f (l ++ [newE (readE (s.take i)).1]) (u + i + 1) (sumL la (s.take i)) (s.drop (i + 1))
      rw [List.length_drop] at ih
      simp only
      split
      · exact Nat.le_add_right _ _
      split
      · exact Nat.le_add_right _ _
      split
      · exact Nat.le_add_right _ _
      split
      · exact Nat.le_add_right _ _
      · omega
theorem f43 (hX : XOj m X) {N : Nat} {j : List Nat} (hN : j.length + 1200 ≤ N) (hj : j.length < 800000) (hb : ∀ c ∈ j, c < 256) (hl : (pJ j).1.length ≤ 4095) : vcallN X N 43 [strV j] = some (.tup [strV (j.take (pJ j).2.1), i64 ((pJ j).1.length : Nat), i64 0]) := by
  obtain ⟨N, rfl⟩ : ∃ M, N = M + 1 := ⟨N - 1, by omega⟩
  have hF : fnsX 43 = some fn43' := rfl
  have h71 := v71 hX (N := N) (j := j) (by omega) hj hb
  have hu := parseJ_used (j.length + 1) [] 0 0 j
  have hc : ¬ (j.length : Int) > 1048576 := by omega
  have g1 : (((pJ j).1.length : Int) == 4096) = false := by rw [beq_eq_false_iff_ne]; omega
  have hu2 : (pJ j).2.1 ≤ j.length := by simpa using hu
  refine vcall_of (r := .tup [strV (j.take (pJ j).2.1), i64 ((pJ j).1.length : Nat), i64 0]) (H := []) ?_ rfl
  rw [hX.fn hF]
  refine (rf_fin _ _ _ _ _ _ _ _ _ (by rfl)).trans ?_
  generalize hP : pJ j = P at *
  obtain ⟨l, u, la, er⟩ := P
  simp only at *
  generalize l.flatMap En.ds = ds at *
  generalize l.length = n at *
  simp only [strV, i64] at h71
  cases g3 : ((er : Int) == 3)
  · simp only [strV, optNat, hc, h71, g3, hu2, Option.map_none, Option.map_some, List.drop_zero, Nat.zero_le, freeze_nil, reachV, reachC, ite_self, List.flatMap_cons, List.flatMap_nil, ↓sp_len, evs, Nat.reduceSub]
  · simp only [strV, optNat, hc, h71, g1, g3, hu2, Option.map_none, Option.map_some, List.drop_zero, Nat.zero_le, freeze_nil, reachV, reachC, ite_self, List.flatMap_cons, List.flatMap_nil, ↓sp_len, evs, Nat.reduceSub]
end Mini
end Go.Proofs.YtgjlofpfbhioaaaGreatDoor
namespace Go.Proofs.YtgjlofpfbhioaaaGreatDoor
namespace Mini
open Go
variable {m : Int} {X : Ctx}
def strC (l : List (List Nat)) : List C := l.map fun s => C.d (.str s)
theorem strC_len (l : List (List Nat)) : (strC l).length = l.length := by simp [strC]
theorem strC_last (l : List (List Nat)) (hl : l ≠ []) : ((strC l).drop (l.length - 1)).take 1 = [.d (.str (l.getLast?.getD []))] := by
  obtain ⟨p, x, rfl⟩ : ∃ p x, l = p ++ [x] := ⟨l.dropLast, l.getLast hl, (List.dropLast_concat_getLast hl).symm⟩
  simp [strC]
theorem strC_set (l : List (List Nat)) (x : Nat) (hl : l ≠ []) : splice (strC l) (l.length - 1) [.d (.str (l.getLast?.getD [] ++ [x]))] = strC (addLast l x) := by
  obtain ⟨p, y, rfl⟩ : ∃ p y, l = p ++ [y] := ⟨l.dropLast, l.getLast hl, (List.dropLast_concat_getLast hl).symm⟩
  simp [strC, splice, addLast]
theorem addLast_len (l : List (List Nat)) (x : Nat) (hl : l ≠ []) : (addLast l x).length = l.length := by
  have : 0 < l.length := by
    cases l with
    | nil => exact absurd rfl hl
    | cons _ _ => simp
  simp [addLast]; omega
theorem last_le (l : List (List Nat)) (b : Nat) (h : ∀ x ∈ l, x.length ≤ b) : (l.getLast?.getD []).length ≤ b := by
  cases hl : l.getLast? with
  | none => simp
  | some x => exact h x (List.mem_of_getLast? hl)
abbrev R30 (s : List Nat) (c id g n : Nat) (cap : Option Nat) (j : Nat) : List V := [strV s, .c (.d (.int .u8 (c : Int))), .any, .c (.os id g 0 n 1 cap), i64 (j : Int), .any, .any]
def P30 (s : List Nat) (c j : Nat) (st : St) : Prop := ∃ id g cap H, st = ⟨R30 s c id g (splitN c (s.take j)).length cap j, H⟩ ∧ H[id]? = some (.cells (strC (splitN c (s.take j))) g false) ∧ (cap = none ∨ cap = some 1 ∧ (splitN c (s.take j)).length = 1) ∧ g ≤ j
theorem tidy30 {s : List Nat} {c j id g n : Nat} {cap : Option Nat} {H : Heap} {cs : List C} {r5 r6 : V} (h : H[id]? = some (.cells cs g false)) : ∃ H', tidy 1 (some [0, 1, 3, 4]) ⟨[strV s, .c (.d (.int .u8 (c : Int))), .any, .c (.os id g 0 n 1 cap), i64 (j : Int), r5, r6], H⟩ = ⟨R30 s c id g n cap j, H'⟩ ∧ H'[id]? = some (.cells cs g false) := by
  obtain ⟨H', t1, t2, t3⟩ := tidy_keep (hl := 1) (js := [0, 1, 3, 4]) (r := [strV s, .c (.d (.int .u8 (c : Int))), .any, .c (.os id g 0 n 1 cap), i64 (j : Int), r5, r6]) (H := H)
  refine ⟨H', t1, ?_⟩
  rcases t3 with rfl | ⟨_, _, hu⟩
  · exact h
  · have : id < 1 := by
      have hk : keepOnly [0, 1, 3, 4] 0 [strV s, .c (.d (.int .u8 (c : Int))), .any, .c (.os id g 0 n 1 cap), i64 (j : Int), r5, r6] = R30 s c id g n cap j := rfl
      rw [hk] at hu
      simp only [R30, List.all_cons, Bool.and_eq_true] at hu
      have h3 := hu.2.2.2.1
      rw [show V.under 1 (.c (.os id g 0 n 1 cap)) = decide (id < 1) from by simp [V.under, C.under]] at h3
      exact of_decide_eq_true h3
    rw [t2 _ this, h]
theorem r30 (_hX : XOk m X) {N : Nat} {s : List Nat} {c j : Nat} (hs : s.length < 900000) (hby : ∀ b ∈ s, b < 256) (hj : j < s.length) : ∀ st, P30 s c j st → ∃ s', exec (zenv X N) N false fn30L0 st = some (.nrm, s') ∧ P30 s c (j + 1) (tidy 1 (some [0, 1, 3, 4]) s') := by
  rintro st ⟨id, g, cap, H, rfl, ho, hcap, hg⟩
  have hx : s[j]? = some (s.getD j 0) := by rw [List.getD_eq_getElem?_getD, List.getElem?_eq_getElem hj]; rfl
  have hb : s.getD j 0 < 256 := hby _ (by rw [List.getD_eq_getElem?_getD, List.getElem?_eq_getElem hj]; exact List.getElem_mem _)
  have hsn : splitN c (s.take (j + 1)) = if s.getD j 0 = c then splitN c (s.take j) ++ [[]] else addLast (splitN c (s.take j)) (s.getD j 0) := by
    rw [List.take_add_one, hx, Option.toList_some, splitN_snoc]
  have hne := splitN_neq c (s.take j)
  obtain ⟨hl1, hl2⟩ := splitN_len c (s.take j)
  rw [List.length_take] at hl1 hl2
  have hlast := last_le _ _ hl2
  have h4 : (j : Int) < (s.length : Int) := by omega
  have h6 := wrap_succ (k := j) (by omega)
  have hlt := some_lt ho
  have hpos : 0 < (splitN c (s.take j)).length := seqLen c _
  unfold P30
  rw [hsn]
  generalize s.getD j 0 = b at *
  generalize splitN c (s.take j) = l at *
  have hcl := strC_len l
  by_cases hbc : b = c
  · have q1 : ((b : Int) == (c : Int)) = true := by rw [beq_iff_eq]; omega
    rw [if_pos hbc]
    have e1 : ∀ o : Ob, (H ++ [o])[H.length]? = some o := fun o => by simp
    have e2 : ∀ o : Ob, (H ++ [o])[id]? = some (.cells (strC l) g false) := fun o => by rw [List.getElem?_append_left hlt, ho]
    have htk : (strC l).take l.length = strC l := List.take_of_length_le (by omega)
    have hap : strC (l ++ [[]]) = strC l ++ [.d (.str [])] := by simp [strC]
    have k1 : l.length + 1 ≤ 1073741824 := by omega
    have k2 : l.length ≤ (strC l).length := by omega
    rcases hcap with rfl | ⟨rfl, hn⟩
    · have k3 : g + 1 < genK := by show g + 1 < 1000000; omega
      have hres : ((H ++ [Ob.cells [C.d (.str [])] 0 false]).set id (.cells (strC l ++ [.d (.str [])]) (g + 1) false))[id]? = some (.cells (strC (l ++ [[]])) (g + 1) false) := by
        rw [List.getElem?_set_self (by simp; omega), hap]
      obtain ⟨H', t1, t2⟩ := tidy30 (s := s) (c := c) (j := j + 1) (n := l.length + 1) (cap := none) (r5 := bl true) (r6 := bl true) hres
      refine ⟨_, ?_, id, g + 1, none, H', by rw [t1, List.length_append]; rfl, t2, .inl rfl, by omega⟩
      simp only [fn30L0, R30, strV, elems, lay, rep, splice, hx, h4, h6, q1, e1, e2, htk, k1, k2, k3, Nat.one_ne_zero, Nat.le_refl, List.take, List.drop, List.map_cons, List.map_nil, evs]
    · have k3 : ¬ l.length + 1 ≤ 1 := by omega
      have hres : (H ++ [Ob.cells [C.d (.str [])] 0 false] ++ [Ob.cells (strC l ++ [.d (.str [])]) 0 false])[H.length + 1]? = some (.cells (strC (l ++ [[]])) 0 false) := by
        rw [hap, List.getElem?_append_right (by simp)]; simp
      obtain ⟨H', t1, t2⟩ := tidy30 (s := s) (c := c) (j := j + 1) (n := l.length + 1) (cap := none) (r5 := bl true) (r6 := bl true) hres
      have hlen : (H ++ [Ob.cells [C.d (.str [])] 0 false]).length = H.length + 1 := by simp
      refine ⟨_, ?_, H.length + 1, 0, none, H', by rw [t1, List.length_append]; rfl, t2, .inl rfl, by omega⟩
      simp only [fn30L0, R30, strV, elems, lay, rep, splice, hx, h4, h6, q1, e1, e2, htk, k1, k2, k3, hlen, Nat.one_ne_zero, Nat.le_refl, List.take, List.drop, List.map_cons, List.map_nil, evs]
  · have q1 : ((b : Int) == (c : Int)) = false := by rw [beq_eq_false_iff_ne]; omega
    rw [if_neg hbc]
    have w1 : IntKind.i64.wrap ((l.length : Int) - 1) = ((l.length - 1 : Nat) : Int) := by rw [← wrap_nat (k := l.length - 1) (by omega)]; congr 1; omega
    have hl3 := strC_last l hne
    have hl4 := strC_set l b hne
    have hal := addLast_len l b hne
    have e1 : ∀ o : Ob, (H ++ [o])[H.length]? = some o := fun o => by simp
    have e2 : ∀ o : Ob, (H ++ [o])[id]? = some (.cells (strC l) g false) := fun o => by rw [List.getElem?_append_left hlt, ho]
    have k1 : l.length - 1 < l.length := by omega
    have k2 : l.length - 1 + 1 ≤ l.length := by omega
    have k3 : (l.getLast?.getD []).length + 1 ≤ 1073741824 := by omega
    have hs1 : splice [C.d (.int .u8 0)] 0 [C.d (.int .u8 (b : Int))] = [C.d (.int .u8 (b : Int))] := rfl
    have hbo : bytesOf [C.d (.int .u8 (b : Int))] = some [b] := bytesOf_of (s := [b]) (fun x hx => by rw [List.mem_singleton] at hx; omega)
    have hres : ((H ++ [Ob.cells [C.d (.int .u8 (b : Int))] 0 false]).set id (.cells (strC (addLast l b)) g false))[id]? = some (.cells (strC (addLast l b)) g false) := by
      rw [List.getElem?_set_self (by simp; omega)]
    obtain ⟨H', t1, t2⟩ := tidy30 (s := s) (c := c) (j := j + 1) (n := l.length) (cap := cap) (r5 := bl true) (r6 := bl false) hres
    refine ⟨_, ?_, id, g, cap, H', by rw [t1, hal], t2, by rw [hal]; exact hcap, by omega⟩
    generalize l.getLast?.getD [] = la at *
    simp only [fn30L0, R30, strV, binStr, elems, lay, rep, hx, h4, h6, q1, w1, hl3, hl4, e1, e2, ho, hcl, k1, k2, k3, hbo, hs1, Nat.le_refl, List.take, List.drop, List.map_cons, List.map_nil, ↓sp_len, ↓sp_ixa, evs]
theorem f30 (hX : XOk m X) {N : Nat} {s : List Nat} {c : Nat} (hN : s.length + 10 ≤ N) (hs : s.length < 900000) (hby : ∀ b ∈ s, b < 256) : vcallN X N 30 [strV s, .c (.d (.int .u8 (c : Int)))] = some (.c (.d (slS (splitN c s)))) := by
  obtain ⟨N, rfl⟩ : ∃ M, N = M + 1 := ⟨N - 1, by omega⟩
  have hF : fnsA 30 = some fn30' := rfl
  obtain ⟨s', hit, id, g, cap, H, hs', ho⟩ := iter_inv (js := some [0, 1, 3, 4]) (hl := 1) (body := exec (zenv X N) N false fn30L0) (P30 s c) (e := .exit 0) (by simp) (fun s' => ∃ id g cap H, s' = ⟨[strV s, .c (.d (.int .u8 (c : Int))), .any, .c (.os id g 0 (splitN c s).length 1 cap), i64 (s.length : Int), bl false, .any], H⟩ ∧ H[id]? = some (.cells (strC (splitN c s)) g false)) s.length 0 N ⟨R30 s c 0 0 1 (some 1) 0, [.cells [.d (.str [])] 0 false]⟩ ⟨0, 0, some 1, _, rfl, rfl, .inr ⟨rfl, rfl⟩, Nat.le_refl _⟩
    (fun j _ hj => r30 hX hs hby (by omega))
    (by
      rw [Nat.zero_add]
      rintro st ⟨id, g, cap, H, rfl, ho, _, _⟩
      rw [List.take_length] at ho
      refine ⟨_, ?_, id, g, cap, H, rfl, ho⟩
      rw [List.take_length]
      simp only [fn30L0, R30, strV, evs]) (by omega)
  subst hs'
  have hcl := strC_len (splitN c s)
  simp only [R30, strV, i64, bl, Int.natCast_zero] at hit
  refine vcall_of (r := .c (.os id g 0 (splitN c s).length 1 cap)) (H := H) ?_ ?_
  · rw [hX.fn hF]
    refine (rf_fin _ _ _ _ _ _ _ _ _ (by rfl)).trans ?_
    have hfr : ∀ (regs : List V) (H : Heap), frn (.c (.os 0 0 0 1 1 (some 1))) 3 1 regs H = ⟨regs, H⟩ := fun _ _ => rfl
    simp only [strV, lay, rep, splice, ex_fresh, hfr, hit, List.take, List.drop, List.map_cons, List.map_nil, evs, Nat.reduceAdd, Nat.reduceLeDiff, Nat.reduceBEq, Nat.reduceSub]
  · have p2 : ((strC (splitN c s)).drop 0).take ((splitN c s).length * 1) = ((splitN c s).map D.str).map .d := by
      rw [List.drop_zero, List.take_of_length_le (by omega), List.map_map]; rfl
    have p1 : 0 + (splitN c s).length * 1 ≤ (strC (splitN c s)).length := by omega
    simp only [deepV, deepV1, deepMax, deepC, ob_eq, ho, if_true, if_pos p1, p2, mapO_d, Option.map_some]
    rfl
end Mini
end Go.Proofs.YtgjlofpfbhioaaaGreatDoor
namespace Go.Proofs.YtgjlofpfbhioaaaGreatDoor
namespace Mini
open Go
variable {m : Int} {X : Ctx}
def arcOk (x : List Nat) : Bool := !(decide (arcOff x)) && x.all isDig && decide (numN 0 x < 4294967296)
theorem arc_yes {x : List Nat} (h : arcOk x = true) : arcV x = .tup [.c (.d (u32D (valP x))), bl true] := by
  simp only [arcOk, Bool.and_eq_true, Bool.not_eq_true', decide_eq_false_iff_not, decide_eq_true_eq] at h
  unfold arcV valP
  rw [if_neg (by rintro (h1 | h1); exact h.1.1 h1; exact h1 h.1.2), decide_eq_true h.2, if_pos (by omega), Nat.mod_eq_of_lt h.2]
theorem arc_no {x : List Nat} (h : arcOk x = false) : ∃ v, arcV x = .tup [.c (.d (u32D v)), bl false] := by
  unfold arcV
  split
  · exact ⟨0, rfl⟩
  · rename_i h1
    rw [not_or] at h1
    have h2 : x.all isDig = true := Decidable.not_not.1 h1.2
    have h3 : ¬ numN 0 x < 4294967296 := by
      intro h3
      have : arcOk x = true := by
        simp only [arcOk, Bool.and_eq_true, Bool.not_eq_true', decide_eq_false_iff_not, decide_eq_true_eq]
        exact ⟨⟨h1.1, h2⟩, h3⟩
      rw [h] at this; cases this
    rw [decide_eq_false h3]
    exact ⟨_, rfl⟩
theorem numN_acc : ∀ (s : List Nat) (acc : Nat), acc * 10 ^ s.length ≤ numN acc s
  | [], acc => by simp [numN]
  | b :: s, acc => by
    have ih := numN_acc s (10 * acc + (b - 48))
    have h2 : (10 * acc) * 10 ^ s.length ≤ (10 * acc + (b - 48)) * 10 ^ s.length := Nat.mul_le_mul_right _ (by omega)
    rw [List.length_cons, Nat.pow_succ, Nat.mul_comm (10 ^ s.length) 10, ← Nat.mul_assoc, Nat.mul_comm acc 10]
    exact Nat.le_trans h2 ih
theorem numN_geh {b : Nat} {s : List Nat} (hb : 49 ≤ b) : 10 ^ s.length ≤ numN 0 (b :: s) := by
  have h := numN_acc s (10 * 0 + (b - 48))
  refine Nat.le_trans ?_ h
  calc 10 ^ s.length = 1 * 10 ^ s.length := (Nat.one_mul _).symm
    _ ≤ _ := Nat.mul_le_mul_right _ (by omega)
theorem arc_dec (x : List Nat) : arcOk x = true ↔ decB x = true ∧ numN 0 x ≤ 4294967295 := by
  simp only [arcOk, decB, Bool.and_eq_true, Bool.or_eq_true, Bool.not_eq_true', decide_eq_false_iff_not, decide_eq_true_eq]
  constructor
  · rintro ⟨⟨h1, h2⟩, h3⟩
    refine ⟨?_, by omega⟩
    unfold arcOff at h1
    rw [not_or, not_or] at h1
    match x, h1, h2 with
    | [], h1, _ => exact absurd rfl h1.1
    | [b], h1, h2 =>
      by_cases hb : b = 48
      · left; rw [hb]
      · right; exact ⟨⟨by simp, by simpa using hb⟩, h2⟩
    | b :: c :: s, h1, h2 =>
      right
      exact ⟨⟨by simp, fun h => h1.2.2 ⟨by simp, h⟩⟩, h2⟩
  · rintro ⟨h1, h3⟩
    rcases h1 with rfl | ⟨⟨h1, h2⟩, h4⟩
    · refine ⟨⟨by unfold arcOff; simp, by decide⟩, by omega⟩
    · refine ⟨⟨?_, h4⟩, by omega⟩
      match x, h1, h2, h4 with
      | b :: s, _, h2, h4 =>
        have hb : 48 ≤ b ∧ b ≤ 57 := by
          rw [List.all_cons, Bool.and_eq_true] at h4
          exact isDig_rng h4.1
        have hb2 : b ≠ 48 := by simpa using h2
        have hge := numN_geh (b := b) (s := s) (by omega)
        unfold arcOff
        rintro (h | h | h)
        · simp at h
        · simp only [List.length_cons] at h
          have : 10 ^ 10 ≤ 10 ^ s.length := Nat.pow_le_pow_right (by omega) (by omega)
          have e : (10 : Nat) ^ 10 = 10000000000 := by decide
          omega
        · exact h2 h.2
theorem largeP_iff (ps : List (List Nat)) : ∀ j, largeP ps j = false ↔ ∀ i, i < j → numN 0 (ps.getD i []) ≤ 4294967295
  | 0 => ⟨fun _ i h => absurd h (Nat.not_lt_zero _), fun _ => rfl⟩
  | j + 1 => by
    rw [largeP, Bool.or_eq_false_iff, largeP_iff ps j, decide_eq_false_iff_not]
    constructor
    · rintro ⟨h1, h2⟩ i hi
      rcases Nat.lt_or_eq_of_le (Nat.le_of_lt_succ hi) with h | rfl
      · exact h1 i h
      · omega
    · intro h
      exact ⟨fun i hi => h i (by omega), by have := h j (by omega); omega⟩
theorem all_at {ps : List (List Nat)} {f : List Nat → Bool} : ps.all f = true ↔ ∀ i, i < ps.length → f (ps.getD i []) = true := by
  rw [List.all_eq_true]
  constructor
  · intro h i hi
    refine h _ ?_
    rw [List.getD_eq_getElem?_getD, List.getElem?_eq_getElem hi]
    exact List.getElem_mem _
  · intro h x hx
    obtain ⟨i, hi, rfl⟩ := List.getElem_of_mem hx
    have := h i hi
    rw [List.getD_eq_getElem?_getD, List.getElem?_eq_getElem hi] at this
    exact this
theorem parseO_iff (s : List Nat) : ((parseO s).2 = 0 ↔ (splitN 46 s).length ≤ 16 ∧ (∀ i, i < (splitN 46 s).length → arcOk ((splitN 46 s).getD i []) = true) ∧ chkO ((splitN 46 s).length, arrP (splitN 46 s) (splitN 46 s).length) = 0) ∧ ((parseO s).2 = 0 → (parseO s).1 = ((splitN 46 s).length, arrP (splitN 46 s) (splitN 46 s).length)) := by
  unfold parseO
  generalize splitN 46 s = ps
  by_cases h1 : ps.all decB = true
  · rw [if_neg (by simp [h1])]
    by_cases h2 : 16 < ps.length
    · rw [if_pos h2]
      exact ⟨⟨fun h => (by cases h), fun h => (by omega)⟩, fun h => (by cases h)⟩
    · rw [if_neg h2]
      by_cases h3 : largeP ps ps.length = true
      · rw [if_pos h3]
        refine ⟨⟨fun h => (by cases h), fun h => ?_⟩, fun h => (by cases h)⟩
        exfalso
        have : largeP ps ps.length = false := (largeP_iff ps _).2 fun i hi => ((arc_dec _).1 (h.2.1 i hi)).2
        rw [h3] at this; cases this
      · rw [if_neg h3]
        have h3 : largeP ps ps.length = false := by simpa using h3
        have h4 := (largeP_iff ps _).1 h3
        have h5 : ∀ i, i < ps.length → arcOk (ps.getD i []) = true := fun i hi => (arc_dec _).2 ⟨all_at.1 h1 i hi, h4 i hi⟩
        by_cases h6 : chkO (ps.length, arrP ps ps.length) = 0
        · rw [if_neg (by simp [h6])]
          exact ⟨⟨fun _ => ⟨by omega, h5, h6⟩, fun _ => rfl⟩, fun _ => rfl⟩
        · rw [if_pos h6]
          exact ⟨⟨fun h => absurd h h6, fun h => absurd h.2.2 h6⟩, fun h => absurd h h6⟩
  · rw [if_pos (by simpa using h1)]
    refine ⟨⟨fun h => (by cases h), fun h => ?_⟩, fun h => (by cases h)⟩
    exact absurd (all_at.2 fun i hi => ((arc_dec _).1 (h.2.1 i hi)).1) h1
abbrev R69 (ps : List (List Nat)) (j : Nat) : List V := [.any, .c (.ptr 0 0 0), .any, .c (.d (slS ps)), .c (.ptr 1 0 0), i64 (j : Int), .any, .any, .any, .any, .any]
set_option maxHeartbeats 1000000 in
theorem f69 (hX : XOk m X) {N : Nat} {s : List Nat} (hN : s.length + 60 ≤ N) (hs : s.length < 900000) (hby : ∀ b ∈ s, b < 256) : ∃ o, vcallN X N 69 [strV s] = some (.tup [.agg (oC o), bl (decide ((parseO s).2 = 0))]) ∧ wfO o ∧ ((parseO s).2 = 0 → o = (parseO s).1) := by
  obtain ⟨N, rfl⟩ : ∃ M, N = M + 1 := ⟨N - 1, by omega⟩
  have hF : fnsA 69 = some fn69' := rfl
  have h30 := hX.vc (k := 30) (F := fn30) rfl (f30 hX (N := N) (c := 46) (by omega) hs hby)
  obtain ⟨hl1, hl2⟩ := splitN_len 46 s
  have hbyp : ∀ x ∈ splitN 46 s, ∀ b ∈ x, b < 256 := by
    have : ∀ s : List Nat, (∀ b ∈ s, b < 256) → ∀ x ∈ splitN 46 s, ∀ b ∈ x, b < 256 := by
      intro s
      induction s with
      | nil => intro _ x hx b hb; simp only [splitN, List.mem_singleton] at hx; subst hx; cases hb
      | cons y s ih =>
        intro h x hx b hb
        have ih := ih (fun b hb => h b (List.mem_cons_of_mem _ hb))
        rw [splitN] at hx
        split at hx
        · rcases List.mem_cons.1 hx with rfl | hx
          · cases hb
          · exact ih x hx b hb
        · cases hsp : splitN 46 s with
          | nil => exact absurd hsp (splitN_neq 46 s)
          | cons a l =>
            rw [hsp] at hx ih
            rcases List.mem_cons.1 hx with rfl | hx
            · rcases List.mem_cons.1 hb with rfl | hb
              · exact h _ List.mem_cons_self
              · exact ih a List.mem_cons_self b hb
            · exact ih x (List.mem_cons_of_mem _ hx) b hb
    exact this s hby
  obtain ⟨hi1, hi2⟩ := parseO_iff s
  have hz0 : oC o0 = zC := rfl
  have hzw : wfO o0 := by unfold wfO o0; decide
  have hlw := slS_len (splitN 46 s)
  have hwrap : ∀ {o : Oid} {b : Bool} {H : Heap}, callN X (N + 1) (.d (.fn 69 [] [])) [strV s] [] = some (.tup [.agg (oC o), bl b], H) → vcallN X (N + 1) 69 [strV s] = some (.tup [.agg (oC o), bl b]) := fun {o b H} h => by
    refine vcall_of h ?_
    simp only [deepV, mapO, deepV1, bl]
    rw [show mapO (deepC H deepMax) (oC o) = some (oD o) from mapO_d H _ _]
    rfl
  generalize splitN 46 s = ps at *
  by_cases c16 : 16 < ps.length
  · have hf : decide ((parseO s).2 = 0) = false := decide_eq_false fun h => by have := (hi1.1 h).1; omega
    have c16' : (ps.length : Int) > 16 := by omega
    rw [hf]
    refine ⟨o0, hwrap (H := [.cells zC 0 false]) ?_, hzw, fun h => by have := (hi1.1 h).1; omega⟩
    rw [hX.fn hF]
    refine (rf_fin _ _ _ _ _ _ _ _ _ (by rfl)).trans ?_
    simp only [strV, Int.cast_ofNat_Int] at h30
    simp only [ob?, strV, h30, hlw, c16', hz0, lay, splice, List.take, List.drop, List.map_cons, List.map_nil, List.set_cons_zero, freeze_nil, reachV, reachC, ite_self, List.flatMap_cons, List.flatMap_nil, ↓sp_len, evs, Nat.reduceAdd, Nat.reduceLeDiff, Nat.reduceSub]
  have c16' : ¬ (ps.length : Int) > 16 := by omega
  have hwu : IntKind.u8.wrap (ps.length : Int) = (ps.length : Int) := wrap_u8 (by omega)
  have hmem : ∀ j, j < ps.length → ps.getD j [] ∈ ps := fun j hj => by
    rw [List.getD_eq_getElem?_getD, List.getElem?_eq_getElem hj]
    exact List.getElem_mem hj
  have hlay : lay [.d (.int .u8 0), .d (.int .u32 0), .d (.int .u32 0), .d (.int .u32 0), .d (.int .u32 0), .d (.int .u32 0), .d (.int .u32 0), .d (.int .u32 0), .d (.int .u32 0), .d (.int .u32 0), .d (.int .u32 0), .d (.int .u32 0), .d (.int .u32 0), .d (.int .u32 0), .d (.int .u32 0), .d (.int .u32 0), .d (.int .u32 0)] [(0, 1, .c (.d (.int .u8 (ps.length : Int))))] = some (oC (ps.length, arrP ps 0)) := rfl
  have hlo0 : (oC (ps.length, arrP ps 0)).length = 17 := rfl
  have hlz : lay [.d (.int .u8 0), .d (.int .u32 0), .d (.int .u32 0), .d (.int .u32 0), .d (.int .u32 0), .d (.int .u32 0), .d (.int .u32 0), .d (.int .u32 0), .d (.int .u32 0), .d (.int .u32 0), .d (.int .u32 0), .d (.int .u32 0), .d (.int .u32 0), .d (.int .u32 0), .d (.int .u32 0), .d (.int .u32 0), .d (.int .u32 0)] [] = some zC := rfl
  have hsc := iter_find (js := some [1, 3, 4, 5]) (hl := 2) (body := exec (zenv X N) N false fn69L0) (fun j => arcOk (ps.getD j []) = false) ps.length (fun i => ⟨R69 ps i, [.cells zC 0 false, .cells (oC (ps.length, arrP ps i)) 0 false]⟩) (b := 0) (s1 := ⟨[.any, .c (.ptr 0 0 0), .any, .c (.d (slS ps)), .c (.ptr 1 0 0), i64 (ps.length : Int), .any, .any, .any, bl false, .any], [.cells zC 0 false, .cells (oC (ps.length, arrP ps ps.length)) 0 false]⟩) (Q := fun k s => ∃ o, nth s.regs 1 = .c (.ptr 0 0 0) ∧ nth s.regs 2 = bl false ∧ s.heap = [.cells zC 0 false, o]) (fuel := N) (by omega)
    (by
      intro j hj hp
      have hp : arcOk (ps.getD j []) = true := by simpa using hp
      have h1 := slS_at ps hj
      have hxl := hl2 _ (hmem j hj)
      have h96 := hX.vc (k := 96) (F := fn96) rfl (f96 hX (N := N) (s := ps.getD j []) (by omega) (by omega) (hbyp _ (hmem j hj)))
      rw [arc_yes hp] at h96
      have h4 : (j : Int) < (ps.length : Int) := by omega
      have h6 := wrap_succ (k := j) (by omega)
      have h16 : j < 16 := by omega
      have hlA := arrP_len ps j
      have hA : arrP ps (j + 1) = (arrP ps j).set j (valP (ps.getD j [])) := by rw [arrP, if_pos h16]
      have hset := oC_set ps.length (arrP ps j) (j := j) (v := valP (ps.getD j [])) (by rw [hlA]; exact h16)
      have hlo : (oC (ps.length, arrP ps j)).length = 17 := by simp [oC, oD, hlA]
      have h17 : 1 + j + 1 ≤ 17 := by omega
      rw [hA]
      generalize valP (ps.getD j []) = v at *
      simp only [strV, u32D, bl] at h96
      refine ⟨⟨[.any, .c (.ptr 0 0 0), .any, .c (.d (slS ps)), .c (.ptr 1 0 0), i64 ((j + 1 : Nat) : Int), .c (.d (.int .u32 (v : Int))), bl true, .any, bl true, bl false], [.cells zC 0 false, .cells (oC (ps.length, (arrP ps j).set j v)) 0 false]⟩, ?_, gc_le (Nat.le_refl 2)⟩
      simp only [fn69L0, R69, ob?, hlw, h1, h4, h6, h96, h16, hset, hlo, h17, Bool.not_true, List.take, List.map_cons, List.map_nil, List.set_cons_zero, List.set_cons_succ, freeze_nil, reachV, reachC, ite_self, List.flatMap_cons, List.flatMap_nil, ↓sp_len, ↓sp_ixa, evs])
    (by simp only [fn69L0, R69, hlw, ↓sp_len, evs])
    (by
      intro j hj hp
      have h1 := slS_at ps hj
      have hxl := hl2 _ (hmem j hj)
      have h96 := hX.vc (k := 96) (F := fn96) rfl (f96 hX (N := N) (s := ps.getD j []) (by omega) (by omega) (hbyp _ (hmem j hj)))
      obtain ⟨v, hv⟩ := arc_no hp
      rw [hv] at h96
      have h4 : (j : Int) < (ps.length : Int) := by omega
      simp only [strV, u32D, bl] at h96
      refine ⟨⟨[.any, .c (.ptr 0 0 0), bl false, .c (.d (slS ps)), .c (.ptr 1 0 0), i64 (j : Int), .c (.d (.int .u32 (v : Int))), bl false, .any, bl true, bl true], [.cells zC 0 false, .cells (oC (ps.length, arrP ps j)) 0 false]⟩, ?_, _, rfl, rfl, rfl⟩
      simp only [fn69L0, R69, ob?, hlw, h1, h4, h96, lay, splice, Bool.not_false, List.take, List.drop, List.map_cons, List.map_nil, List.set_cons_zero, freeze_nil, reachV, reachC, ite_self, List.flatMap_cons, List.flatMap_nil, ↓sp_len, ↓sp_ixa, evs, Nat.reduceAdd, Nat.reduceLeDiff])
  simp only [R69, i64, bl, strV, Int.cast_ofNat_Int] at hsc h30
  rcases hsc with ⟨hno, hit⟩ | ⟨k, s', hk, hp, hno, ⟨o, hq1, hq2, hqh⟩, hit⟩
  · have hall : ∀ i, i < ps.length → arcOk (ps.getD i []) = true := fun i hi => by simpa using hno i hi
    have hwf : wfO (ps.length, arrP ps ps.length) := ⟨by simp only; omega, arrP_len ps _, arrP_lt ps _⟩
    have h97 := hX.vc (k := 97) (F := fn97) rfl (f97 hX (N := N) (by omega) hwf)
    have hdec : decide (chkO (ps.length, arrP ps ps.length) = 0) = decide ((parseO s).2 = 0) := by
      rw [decide_eq_decide]
      exact ⟨fun h => hi1.2 ⟨by omega, hall, h⟩, fun h => (hi1.1 h).2.2⟩
    rw [hdec] at h97
    have hlo := oC_len hwf
    have hdD : mapO (deepC [Ob.cells zC 0 false, .cells (oC (ps.length, arrP ps ps.length)) 0 false] deepMax) (oC (ps.length, arrP ps ps.length)) = some (oD (ps.length, arrP ps ps.length)) := mapO_d _ _ _
    have hd : List.map C.d (oD (ps.length, arrP ps ps.length)) = oC (ps.length, arrP ps ps.length) := rfl
    have hsp : splice zC 0 (oC (ps.length, arrP ps ps.length)) = oC (ps.length, arrP ps ps.length) := by
      unfold splice
      rw [List.take_zero, List.nil_append, Nat.zero_add, hlo, List.drop_of_length_le (Nat.le_refl 17), List.append_nil]
    generalize decide ((parseO s).2 = 0) = ok at *
    generalize hoo : (ps.length, arrP ps ps.length) = oo at *
    simp only [bl] at h97
    refine ⟨oo, hwrap (H := [.cells (oC oo) 0 false, .cells (oC oo) 0 false]) ?_, hwf, fun h => (hi2 h).symm⟩
    rw [hX.fn hF]
    refine (rf_fin _ _ _ _ _ _ _ _ _ (by rfl)).trans ?_
    simp only [ob?, strV, h30, hlw, c16', hwu, hlay, hlo0, hit, h97, hlo, hd, hdD, hsp, List.drop_zero, List.take_of_length_le (Nat.le_of_eq hlo), List.map_cons, List.map_nil, List.set_cons_zero, freeze_nil, reachV, reachC, ite_self, List.flatMap_cons, List.flatMap_nil, ↓sp_len, evs, Nat.reduceAdd, Nat.reduceLeDiff, Nat.reduceBEq, Nat.reduceSub]
  · have hf : decide ((parseO s).2 = 0) = false := decide_eq_false fun h => by
      have := (hi1.1 h).2.1 k hk
      rw [hp] at this; cases this
    rw [hf]
    obtain ⟨r, H⟩ := s'
    simp only at hq1 hq2 hqh
    subst hqh
    refine ⟨o0, hwrap (H := [.cells zC 0 false, o]) ?_, hzw, fun h => by
      have := (hi1.1 h).2.1 k hk
      rw [hp] at this; cases this⟩
    rw [hX.fn hF]
    refine (rf_fin _ _ _ _ _ _ _ _ _ (by rfl)).trans ?_
    simp only [ob?, strV, h30, hlw, c16', hwu, hlay, hlo0, hit, hq1, hq2, hz0, List.drop_zero, List.take, List.map_cons, List.map_nil, freeze_nil, reachV, reachC, ite_self, List.flatMap_cons, List.flatMap_nil, ↓sp_len, evs, Nat.reduceAdd, Nat.reduceBEq, Nat.reduceSub]
end Mini
end Go.Proofs.YtgjlofpfbhioaaaGreatDoor
namespace Go.Proofs.YtgjlofpfbhioaaaGreatDoor
namespace Mini
open Go
variable {m : Int} {X : Ctx}
theorem splitN_byte (c : Nat) : ∀ s : List Nat, (∀ b ∈ s, b < 256) → ∀ x ∈ splitN c s, ∀ b ∈ x, b < 256
  | [], _, x, hx, b, hb => by simp only [splitN, List.mem_singleton] at hx; subst hx; cases hb
  | y :: s, h, x, hx, b, hb => by
    have ih := splitN_byte c s (fun b hb => h b (List.mem_cons_of_mem _ hb))
    rw [splitN] at hx
    split at hx
    · rcases List.mem_cons.1 hx with rfl | hx
      · cases hb
      · exact ih x hx b hb
    · cases hsp : splitN c s with
      | nil => exact absurd hsp (splitN_neq c s)
      | cons a l =>
        rw [hsp] at hx ih
        rcases List.mem_cons.1 hx with rfl | hx
        · rcases List.mem_cons.1 hb with rfl | hb
          · exact h _ List.mem_cons_self
          · exact ih a List.mem_cons_self b hb
        · exact ih x (List.mem_cons_of_mem _ hx) b hb
end Mini
end Go.Proofs.YtgjlofpfbhioaaaGreatDoor
namespace Go.Proofs.YtgjlofpfbhioaaaGreatDoor
namespace Mini
open Go
variable {m : Int} {X : Ctx}
theorem lidx_last {c : Nat} : ∀ {s : List Nat} {k : Nat}, lidxN c s = some k → 2 ≤ (splitN c s).length ∧ (splitN c s).getD ((splitN c s).length - 1) [] = s.drop (k + 1)
  | [], _, h => by cases h
  | x :: s, k, h => by
    unfold lidxN at h
    split at h
    · rename_i k' h2
      cases h
      obtain ⟨h3, h4⟩ := lidx_last h2
      rw [List.drop_succ_cons, ← h4]
      cases hs : splitN c s with
      | nil => rw [hs] at h3; simp at h3
      | cons a l =>
        rw [hs] at h3
        cases l with
        | nil => simp at h3
        | cons b l' =>
          unfold splitN
          split
          · rw [hs]; exact ⟨by simp, by simp⟩
          · rw [hs]; exact ⟨by simp, by simp⟩
    · rename_i h2
      split at h
      · rename_i h3
        cases h
        unfold splitN
        rw [if_pos h3, lidx_none h2]
        exact ⟨by simp, by simp⟩
      · cases h
abbrev R41a (q : List (List Nat)) (st : Int) (b : List Nat) (j : Nat) : List V := [.any, .c (.ptr 0 0 0), .any, .any, .any, .c (.d (slS q)), .any, .any, i64 st, strV b, .c (.ptr 2 0 0), .any, .any, .any, .any, i64 (j : Int), .any, .any, .any, .any, .any, .any, .any, .any]
abbrev hp41a (nm : List Nat) (r : Nat) : Heap := [.cells zE 0 false, .cells zE 0 false, .cells [.d (.str nm), .d (.bool false), .d (.int .u8 (r : Int)), .d (.int .i64 0), .d .nils] 0 false]
theorem it41a (hX : XOj m X) {N : Nat} (hN : 10 ≤ N) {q : List (List Nat)} {st : Int} {b nm : List Nat} (hq : 2 < q.length) : iter (some [1, 5, 8, 9, 10, 15]) 3 (exec (zenv X N) N false fn41L0) N ⟨R41a q st b 1, hp41a nm 0⟩ =
    some (.exit 2, ⟨[.any, .c (.ptr 0 0 0), .any, .any, .any, .c (.d (slS q)), .any, .any, i64 st, strV b, .c (.ptr 2 0 0), .any, .any, .any, .any, i64 4, .any, .any, .any, .any, .any, .any, bl false, .any], hp41a nm (rvJ (q.getD 2 []) 3)⟩) := by
  have h2' := slS_at q (i := 2) hq
  have h77 := hX.vc (k := 77) (F := fn77) rfl (f77 hX (N := N) (by omega))
  have hrd : reasD = slS [reasT 0, reasT 1, reasT 2, reasT 3] := rfl
  rw [hrd] at h77
  refine iter_to (fun i => ⟨R41a q st b i, hp41a nm (rvJ (q.getD 2 []) (i - 1))⟩) (e := .exit 2) (fun h => by cases h) 3 1 N (fun j h1j hj => ?_) ?_ (by omega)
  · have hat := slS_at [reasT 0, reasT 1, reasT 2, reasT 3] (i := j) (by simp only [List.length_cons, List.length_nil]; omega)
    have hgd : [reasT 0, reasT 1, reasT 2, reasT 3].getD j [] = reasT j := by
      have : j = 1 ∨ j = 2 ∨ j = 3 := by omega
      rcases this with rfl | rfl | rfl <;> rfl
    rw [hgd] at hat
    have h4 : (j : Int) < 4 := by omega
    have h6 := wrap_succ (k := j) (by omega)
    have h7 : IntKind.u8.wrap (j : Int) = (j : Int) := wrap_u8 (by omega)
    have hrv : rvJ (q.getD 2 []) (j + 1 - 1) = if q.getD 2 [] = reasT j then j else rvJ (q.getD 2 []) (j - 1) := by
      obtain ⟨k, rfl⟩ : ∃ k, j = k + 1 := ⟨j - 1, by omega⟩
      rfl
    rw [hrv]
    generalize rvJ (q.getD 2 []) (j - 1) = rv at *
    generalize q.getD 2 [] = p at *
    generalize slS [reasT 0, reasT 1, reasT 2, reasT 3] = rs at *
    generalize List.map D.str (List.drop (j + 1) [reasT 0, reasT 1, reasT 2, reasT 3]) = rt' at *
    generalize reasT j = rt at *
    by_cases hp : p = rt
    · rw [if_pos hp]
      subst hp
      have hb : (p == p) = true := by simp
      refine ⟨⟨[.any, .c (.ptr 0 0 0), .any, .any, .any, .c (.d (slS q)), .any, .any, i64 st, strV b, .c (.ptr 2 0 0), .any, .any, .any, .any, i64 ((j + 1 : Nat) : Int), .any, .any, .any, .any, .any, .any, bl true, bl true], hp41a nm j⟩, ?_, gc_le (Nat.le_refl 3)⟩
      simp only [fn41L0, R41a, hp41a, ob?, strV, binStr, splice, h2', h77, hat, h4, h6, h7, hb, List.take, List.drop, List.map_cons, List.map_nil, List.set_cons_zero, List.set_cons_succ, freeze_nil, reachV, ite_self, List.flatMap_nil, ↓sp_ixa, evs, Nat.reduceAdd, Nat.reduceLeDiff]
    · rw [if_neg hp]
      have hb : (p == rt) = false := by rw [beqS]; exact decide_eq_false hp
      refine ⟨⟨[.any, .c (.ptr 0 0 0), .any, .any, .any, .c (.d (slS q)), .any, .any, i64 st, strV b, .c (.ptr 2 0 0), .any, .any, .any, .any, i64 ((j + 1 : Nat) : Int), .any, .any, .any, .any, .any, .any, bl true, bl false], hp41a nm rv⟩, ?_, gc_le (Nat.le_refl 3)⟩
      simp only [fn41L0, R41a, hp41a, strV, binStr, h2', h77, hat, h4, h6, hb, List.take, List.map_cons, List.map_nil, freeze_nil, reachV, ite_self, List.flatMap_nil, ↓sp_ixa, evs, Nat.reduceAdd]
  · have h4 : ¬ ((1 + 3 : Nat) : Int) < 4 := by omega
    have h5 : ((1 + 3 : Nat) : Int) = 4 := rfl
    show exec (zenv X N) N false fn41L0 ⟨R41a q st b (1 + 3), hp41a nm (rvJ (q.getD 2 []) 3)⟩ = _
    rw [h5] at h4
    generalize rvJ (q.getD 2 []) 3 = rv
    simp only [fn41L0, R41a, hp41a, h5, h4, evs, Nat.reduceAdd]
abbrev R41b (_q ps : List (List Nat)) (st : Int) (b : List Nat) (j : Nat) : List V := [.any, .c (.ptr 0 0 0), .any, .any, .any, .any, .any, .c (.ptr 1 0 0), i64 st, strV b, .c (.ptr 2 0 0), .c (.d (slS ps)), i64 (j : Int), .any, .any, .any, .any, .any, .any, .any, .any, .any, .any, .any]
def hp41b (nm : List Nat) (ps : List (List Nat)) (j : Nat) : Heap := [.cells zE 0 false, .cells zE 0 false, .cells (enK nm (.os 3 j 0 j 17 none)) 0 false, .cells (flC (osP ps j)) j false]
theorem it41b (hX : XOj m X) {N : Nat} {q ps : List (List Nat)} {st : Int} {b nm : List Nat} (hN : ps.length + 100 ≤ N) (hps : ps.length < 900000) (hl : ∀ x ∈ ps, x.length + 100 ≤ N ∧ x.length < 900000) (hbyp : ∀ x ∈ ps, ∀ c ∈ x, c < 256) :
    (itemsOk ps ∧ iter (some [1, 7, 8, 9, 10, 11, 12]) 4 (exec (zenv X N) N false fn41L1) N ⟨R41b q ps st b 0, hp41b nm ps 0⟩ = some (.exit 0, ⟨[.any, .c (.ptr 0 0 0), .any, .any, .any, .any, .any, .c (.ptr 1 0 0), i64 st, strV b, .c (.ptr 2 0 0), .c (.d (slS ps)), i64 (ps.length : Int), .any, .any, .any, .any, .any, .any, bl false, .any, .any, .any, .any], hp41b nm ps ps.length⟩)) ∨
    (¬ itemsOk ps ∧ ∃ s', iter (some [1, 7, 8, 9, 10, 11, 12]) 4 (exec (zenv X N) N false fn41L1) N ⟨R41b q ps st b 0, hp41b nm ps 0⟩ = some (.ret, s') ∧ nth s'.regs 1 = .c (.ptr 0 0 0) ∧ nth s'.regs 2 = strV [] ∧ nth s'.regs 3 = i64 0 ∧ nth s'.regs 4 = bl false ∧ ∃ t, s'.heap = .cells zE 0 false :: t) := by
  have hlp := slS_len ps
  have hmem : ∀ j, j < ps.length → ps.getD j [] ∈ ps := fun j hj => by
    rw [List.getD_eq_getElem?_getD, List.getElem?_eq_getElem hj]
    exact List.getElem_mem hj
  have hsc := iter_find (js := some [1, 7, 8, 9, 10, 11, 12]) (hl := 4) (body := exec (zenv X N) N false fn41L1) (fun j => (parseO (ps.getD j [])).2 ≠ 0) ps.length (fun i => ⟨R41b q ps st b i, hp41b nm ps i⟩) (b := 0) (s1 := ⟨[.any, .c (.ptr 0 0 0), .any, .any, .any, .any, .any, .c (.ptr 1 0 0), i64 st, strV b, .c (.ptr 2 0 0), .c (.d (slS ps)), i64 (ps.length : Int), .any, .any, .any, .any, .any, .any, bl false, .any, .any, .any, .any], hp41b nm ps ps.length⟩) (Q := fun k s' => nth s'.regs 1 = .c (.ptr 0 0 0) ∧ nth s'.regs 2 = strV [] ∧ nth s'.regs 3 = i64 0 ∧ nth s'.regs 4 = bl false ∧ ∃ t, s'.heap = .cells zE 0 false :: t) (fuel := N) (by omega)
    (by
      intro j hj hp
      have hp := Decidable.not_not.1 hp
      have h1 := slS_at ps hj
      obtain ⟨hx1, hx2⟩ := hl _ (hmem j hj)
      obtain ⟨o, h69, how, ho⟩ := f69 hX.x (N := N) (s := ps.getD j []) (by omega) hx2 (hbyp _ (hmem j hj))
      have h69 := hX.x.vc (k := 69) (F := fn69) rfl h69
      rw [decide_eq_true hp] at h69
      have ho := ho hp
      have h4 : (j : Int) < (ps.length : Int) := by omega
      have h6 := wrap_succ (k := j) (by omega)
      have hos := osP_succ ps hj
      rw [← ho] at hos
      have hlo := osP_len ps (j := j) (by omega)
      have hfl := flC_len (osP_wf ps j)
      rw [hlo] at hfl
      unfold hp41b
      rw [hos]
      have hfu := flC_u 4 (osP ps j)
      generalize osP ps j = l at *
      generalize ps.getD j [] = x at *
      have h6o := oC_len how
      have hap : flC (l ++ [o]) = flC l ++ oC o := by rw [flC_app, flC_one]
      have htk : (flC l).take (j * 17) = flC l := List.take_of_length_le (by omega)
      have hl1 := lay1 how
      have k1 : j + 1 ≤ 1073741824 := by omega
      have k2 : j + 1 < genK := by show j + 1 < 1000000; omega
      have hfo := oC_flat o
      have hod := oC_d o
      rw [hap]
      simp only [strV, bl] at h69
      refine ⟨⟨[.any, .c (.ptr 0 0 0), .any, .any, .any, .any, .any, .c (.ptr 1 0 0), i64 st, strV b, .c (.ptr 2 0 0), .c (.d (slS ps)), i64 ((j + 1 : Nat) : Int), .c (.ptr 4 0 0), bl true, .any, .any, .any, .any, bl true, bl false, .any, .any, .any], [.cells zE 0 false, .cells zE 0 false, .cells (enK nm (.os 3 (j + 1) 0 (j + 1) 17 none)) 0 false, .cells (flC l ++ oC o) (j + 1) false] ++ [.cells (oC o) 0 false, .cells (oC o) 0 false]⟩, ?_, ?_⟩
      · simp only [fn41L1, R41b, ob?, enK, strV, elems, splice, hlp, h1, h4, h6, h69, h6o, hfl, htk, hl1, k1, k2, Bool.not_true, List.take, List.drop, List.take_of_length_le (Nat.le_of_eq h6o), List.set_cons_zero, List.set_cons_succ, List.map_cons, List.map_nil, List.cons_append, List.nil_append, freeze_nil, reachV, reachC, ite_self, List.flatMap_cons, List.flatMap_nil, Nat.le_refl, Nat.one_ne_zero, ↓sp_len, ↓sp_ixa, evs, Nat.reduceAdd]
      · refine tidy_back rfl rfl rfl (Hp.cons rfl (Hp.cons rfl (Hp.cons rfl (Hp.cons ?_ Hp.nil))))
        simp only [uO, List.all_append, Bool.and_eq_true]
        refine ⟨hfu, ?_⟩
        rw [List.all_eq_true] at hod ⊢
        intro c hc
        have := hod c hc
        cases c <;> first | rfl | cases this)
    (by
      generalize hp41b nm ps ps.length = HH
      simp only [fn41L1, R41b, strV, hlp, ↓sp_len, evs])
    (by
      intro j hj hp
      have h1 := slS_at ps hj
      obtain ⟨hx1, hx2⟩ := hl _ (hmem j hj)
      obtain ⟨o, h69, how, _⟩ := f69 hX.x (N := N) (s := ps.getD j []) (by omega) hx2 (hbyp _ (hmem j hj))
      have h69 := hX.x.vc (k := 69) (F := fn69) rfl h69
      rw [decide_eq_false hp] at h69
      have h4 : (j : Int) < (ps.length : Int) := by omega
      unfold hp41b
      generalize osP ps j = l at *
      generalize ps.getD j [] = x at *
      have h6o := oC_len how
      have hfo := oC_flat o
      simp only [strV, bl] at h69
      refine ⟨⟨[.any, .c (.ptr 0 0 0), strV [], i64 0, bl false, .any, .any, .c (.ptr 1 0 0), i64 st, strV b, .c (.ptr 2 0 0), .c (.d (slS ps)), i64 (j : Int), .c (.ptr 4 0 0), bl false, .any, .any, .any, .any, bl true, bl true, .any, .any, .any], [.cells zE 0 false, .cells zE 0 false, .cells (enK nm (.os 3 j 0 j 17 none)) 0 false, .cells (flC l) j false, .cells (oC o) 0 false]⟩, ?_, rfl, rfl, rfl, rfl, _, rfl⟩
      simp only [fn41L1, R41b, ob?, zE, strV, splice, hlp, h1, h4, h69, h6o, Bool.not_false, List.take, List.drop, List.set_cons_zero, List.map_cons, List.map_nil, List.cons_append, List.nil_append, freeze_nil, reachV, reachC, ite_self, List.flatMap_cons, List.flatMap_nil, ↓sp_len, ↓sp_ixa, evs, Nat.reduceAdd, Nat.reduceLeDiff])
  rcases hsc with ⟨hno, hit⟩ | ⟨k, s', hk, hp, hno, hq, hit⟩
  · exact .inl ⟨fun j hj => Decidable.not_not.1 (hno j hj), hit⟩
  · exact .inr ⟨fun h => hp (h k hk), s', hit, hq⟩
end Mini
end Go.Proofs.YtgjlofpfbhioaaaGreatDoor
