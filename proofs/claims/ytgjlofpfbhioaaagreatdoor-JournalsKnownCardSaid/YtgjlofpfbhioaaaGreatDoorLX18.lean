/-
  JournalsKnown: texts of the proof, part 19.
-/
import Derived.Test.YtgjlofpfbhioaaaGreatDoorLX17
namespace Go.Proofs.YtgjlofpfbhioaaaGreatDoor
namespace Mini
open Go
variable {m : Int} {X : Ctx}
theorem yl71l (_hX : XOj m X) {N : Nat} {j a : List Nat} {l : List En} {used last bh : Nat} (hN : 1 ≤ N) (hl : l.length = 4096) :
    ∃ t, callN X N (.yld 6) [strV a, i64 (bh : Int)] (hp71 j l used last 0 true none) = some (bl false, hp71 j l used last 3 false (some .ret) ++ t) := by
  obtain ⟨N, rfl⟩ : ∃ M, N = M + 1 := ⟨N - 1, by omega⟩
  have g1 : ((l.length : Int) == 4096) = true := by rw [beq_iff_eq]; omega
  have p10 : apart (.c (.ptr 1 0 0)) (.c (.ptr 0 0 0)) = true := rfl
  have p20 : apart (.c (.ptr 2 0 0)) (.c (.ptr 0 0 0)) = true := rfl
  have p21 : apart (.c (.ptr 2 0 0)) (.c (.ptr 1 0 0)) = true := rfl
  unfold hp71
  generalize eC l = ec at *
  generalize l.length = n at *
  refine ⟨[], ?_⟩
  refine (callN_yld2 (X := X) (n := N) (id := 6) (p := 13) (p' := 14) (regs := regs71 j) (regs1 := regs71 j) (regs2 := regs71 j) (ps1 := [13, 14]) (ps2 := [13, 14]) (asg := fn71A) (body := fn71B) (asg1 := fn71A) (body1 := fn71B) (asg2 := fn71A) (body2 := fn71B) (s1 := ⟨[strV j, .c (.ptr 0 0 0), .c (.ptr 1 0 0), .c (.ptr 2 0 0), .c (.ptr 3 0 0), strV a, i64 (bh : Int), .any, .any, .any, .any, .any, .c fnLj, strV a, i64 (bh : Int), .any, .any, .any, .any], [.cells [.os 5 n 0 n 5 none] 0 false, .cells [.d (.int .i64 (used : Int))] 0 false, .cells [.d (.int .i64 (last : Int))] 0 false, .cells [.d (.int .i64 ((0 : Nat) : Int))] 0 false, .cells [.d (.str j)] 0 false, .cells ec n false, .loop true none (regs71 j) [13, 14] fn71A fn71B]⟩)
    (s2 := ⟨[strV j, .c (.ptr 0 0 0), .c (.ptr 1 0 0), .c (.ptr 2 0 0), .c (.ptr 3 0 0), strV a, i64 (bh : Int), .any, .any, .any, .any, .any, .c fnLj, strV a, i64 (bh : Int), bl true, .any, .any, .any], [.cells [.os 5 n 0 n 5 none] 0 false, .cells [.d (.int .i64 (used : Int))] 0 false, .cells [.d (.int .i64 (last : Int))] 0 false, .cells [.d (.int .i64 (3 : Int))] 0 false, .cells [.d (.str j)] 0 false, .cells ec n false, .loop false none (regs71 j) [13, 14] fn71A fn71B]⟩) (e := .ret) rfl ?_ rfl ?_ rfl).trans rfl
  · simp only [fn71A, evs]
  · simp only [fn71B, ob?, strV, splice, rg_ap, p10, p20, p21, g1, Int.cast_ofNat_Int, Option.map_none, Option.map_some, Nat.le_refl, List.take, List.drop, List.set_cons_zero, List.set_cons_succ, ↓sp_len, evs]
theorem yl71f (hX : XOj m X) {N : Nat} {j a : List Nat} {l : List En} {used last bh : Nat} {e : En} {st : Int} (hN : a.length + 600 ≤ N) (ha : a.length < 800000) (hl : l.length < 4096) (hr : readE a = (e, st, false)) :
    ∃ t, callN X N (.yld 6) [strV a, i64 (bh : Int)] (hp71 j l used last 0 true none) = some (bl false, hp71 j l used last 6 false (some .ret) ++ t) := by
  obtain ⟨N, rfl⟩ : ∃ M, N = M + 1 := ⟨N - 1, by omega⟩
  have g1 : ((l.length : Int) == 4096) = false := by rw [beq_eq_false_iff_ne]; omega
  have h99 := hX.vc (k := 99) (F := fn99) rfl (f99 hX (N := N) (s := a) (by omega) ha)
  rw [hr] at h99
  simp only [strV, i64, bl, En.ds, List.map_cons, List.map_nil] at h99
  have p10 : apart (.c (.ptr 1 0 0)) (.c (.ptr 0 0 0)) = true := rfl
  have p20 : apart (.c (.ptr 2 0 0)) (.c (.ptr 0 0 0)) = true := rfl
  have p21 : apart (.c (.ptr 2 0 0)) (.c (.ptr 1 0 0)) = true := rfl
  unfold hp71
  generalize eC l = ec at *
  generalize l.length = n at *
  refine ⟨[.cells [.d (.str e.s), .d (.bool e.acc), .d (.int .u8 (e.r : Int)), .d (.int .i64 e.t), .d e.w] 0 false], ?_⟩
  refine (callN_yld2 (X := X) (n := N) (id := 6) (p := 13) (p' := 14) (regs := regs71 j) (regs1 := regs71 j) (regs2 := regs71 j) (ps1 := [13, 14]) (ps2 := [13, 14]) (asg := fn71A) (body := fn71B) (asg1 := fn71A) (body1 := fn71B) (asg2 := fn71A) (body2 := fn71B) (s1 := ⟨[strV j, .c (.ptr 0 0 0), .c (.ptr 1 0 0), .c (.ptr 2 0 0), .c (.ptr 3 0 0), strV a, i64 (bh : Int), .any, .any, .any, .any, .any, .c fnLj, strV a, i64 (bh : Int), .any, .any, .any, .any], [.cells [.os 5 n 0 n 5 none] 0 false, .cells [.d (.int .i64 (used : Int))] 0 false, .cells [.d (.int .i64 (last : Int))] 0 false, .cells [.d (.int .i64 ((0 : Nat) : Int))] 0 false, .cells [.d (.str j)] 0 false, .cells ec n false, .loop true none (regs71 j) [13, 14] fn71A fn71B]⟩)
    (s2 := ⟨[strV j, .c (.ptr 0 0 0), .c (.ptr 1 0 0), .c (.ptr 2 0 0), .c (.ptr 3 0 0), strV a, i64 (bh : Int), .c (.ptr 7 0 0), i64 st, bl false, .any, .any, .c fnLj, strV a, i64 (bh : Int), bl false, bl true, .any, .any], [.cells [.os 5 n 0 n 5 none] 0 false, .cells [.d (.int .i64 (used : Int))] 0 false, .cells [.d (.int .i64 (last : Int))] 0 false, .cells [.d (.int .i64 (6 : Int))] 0 false, .cells [.d (.str j)] 0 false, .cells ec n false, .loop false none (regs71 j) [13, 14] fn71A fn71B, .cells [.d (.str e.s), .d (.bool e.acc), .d (.int .u8 (e.r : Int)), .d (.int .i64 e.t), .d e.w] 0 false]⟩) (e := .ret) rfl ?_ rfl ?_ rfl).trans rfl
  · simp only [fn71A, evs]
  · simp only [fn71B, ob?, strV, splice, rg_ap, p10, p20, p21, g1, h99, Int.cast_ofNat_Int, Option.map_none, Option.map_some, Nat.le_refl, Bool.not_false, List.take, List.drop, List.set_cons_zero, List.set_cons_succ, freeze_nil, reachV, reachC, ite_self, List.flatMap_cons, List.flatMap_nil, ↓sp_len, evs, Nat.reduceAdd]
theorem yl71c (hX : XOj m X) {N : Nat} {j a : List Nat} {l : List En} {used last bh : Nat} {e : En} {st : Int} (hN : a.length + 600 ≤ N) (ha : a.length < 800000) (hl : l.length < 4096) (hr : readE a = (e, st, true)) (hw : isSet e.w e.l) (hwl : wfS e.l) (hel : e.l.length < 1000000) (hes : e.s.length ≤ a.length) {c : Nat} (hc : e.chk = c) (hc0 : c ≠ 0) :
    ∃ t, callN X N (.yld 6) [strV a, i64 (bh : Int)] (hp71 j l used last 0 true none) = some (bl false, hp71 j l used last c false (some .ret) ++ t) := by
  obtain ⟨N, rfl⟩ : ∃ M, N = M + 1 := ⟨N - 1, by omega⟩
  have g1 : ((l.length : Int) == 4096) = false := by rw [beq_eq_false_iff_ne]; omega
  have h99 := hX.vc (k := 99) (F := fn99) rfl (f99 hX (N := N) (s := a) (by omega) ha)
  rw [hr] at h99
  simp only [strV, i64, bl, En.ds, List.map_cons, List.map_nil] at h99
  have h48 := hX.vc (k := 48) (F := fn48) rfl (f48 hX (N := N) (s := e.s) (acc := e.acc) (r := e.r) (t := e.t) (w := e.w) (l := e.l) (by omega) (by omega) hw hwl hel)
  have hc' : chkE e.s e.acc e.r e.t e.l = c := hc
  rw [hc'] at h48
  simp only [i64, enC] at h48
  have g2 : ((c : Int) != 0) = true := by rw [bne_iff_ne]; omega
  have p10 : apart (.c (.ptr 1 0 0)) (.c (.ptr 0 0 0)) = true := rfl
  have p20 : apart (.c (.ptr 2 0 0)) (.c (.ptr 0 0 0)) = true := rfl
  have p21 : apart (.c (.ptr 2 0 0)) (.c (.ptr 1 0 0)) = true := rfl
  unfold hp71
  generalize eC l = ec at *
  generalize l.length = n at *
  refine ⟨[.cells [.d (.str e.s), .d (.bool e.acc), .d (.int .u8 (e.r : Int)), .d (.int .i64 e.t), .d e.w] 0 false], ?_⟩
  refine (callN_yld2 (X := X) (n := N) (id := 6) (p := 13) (p' := 14) (regs := regs71 j) (regs1 := regs71 j) (regs2 := regs71 j) (ps1 := [13, 14]) (ps2 := [13, 14]) (asg := fn71A) (body := fn71B) (asg1 := fn71A) (body1 := fn71B) (asg2 := fn71A) (body2 := fn71B) (s1 := ⟨[strV j, .c (.ptr 0 0 0), .c (.ptr 1 0 0), .c (.ptr 2 0 0), .c (.ptr 3 0 0), strV a, i64 (bh : Int), .any, .any, .any, .any, .any, .c fnLj, strV a, i64 (bh : Int), .any, .any, .any, .any], [.cells [.os 5 n 0 n 5 none] 0 false, .cells [.d (.int .i64 (used : Int))] 0 false, .cells [.d (.int .i64 (last : Int))] 0 false, .cells [.d (.int .i64 ((0 : Nat) : Int))] 0 false, .cells [.d (.str j)] 0 false, .cells ec n false, .loop true none (regs71 j) [13, 14] fn71A fn71B]⟩)
    (s2 := ⟨[strV j, .c (.ptr 0 0 0), .c (.ptr 1 0 0), .c (.ptr 2 0 0), .c (.ptr 3 0 0), strV a, i64 (bh : Int), .c (.ptr 7 0 0), i64 st, bl true, i64 (c : Int), .any, .c fnLj, strV a, i64 (bh : Int), bl false, bl false, bl true, .any], [.cells [.os 5 n 0 n 5 none] 0 false, .cells [.d (.int .i64 (used : Int))] 0 false, .cells [.d (.int .i64 (last : Int))] 0 false, .cells [.d (.int .i64 (c : Int))] 0 false, .cells [.d (.str j)] 0 false, .cells ec n false, .loop false none (regs71 j) [13, 14] fn71A fn71B, .cells [.d (.str e.s), .d (.bool e.acc), .d (.int .u8 (e.r : Int)), .d (.int .i64 e.t), .d e.w] 0 false]⟩) (e := .ret) rfl ?_ rfl ?_ rfl).trans rfl
  · simp only [fn71A, evs]
  · simp only [fn71B, ob?, strV, splice, rg_ap, p10, p20, p21, g1, g2, h99, h48, Int.cast_ofNat_Int, Option.map_none, Option.map_some, Nat.le_refl, Bool.not_true, List.take, List.drop, List.map_cons, List.map_nil, List.set_cons_zero, List.set_cons_succ, freeze_nil, reachV, reachC, ite_self, List.flatMap_cons, List.flatMap_nil, ↓sp_len, evs, Nat.reduceAdd]
theorem yl71s (hX : XOj m X) {N : Nat} {j a : List Nat} {l : List En} {used last bh : Nat} {e : En} {st : Int} (hN : a.length + 600 ≤ N) (ha : a.length < 800000) (hl : l.length < 4096) (hr : readE a = (e, st, true)) (hw : isSet e.w e.l) (hwl : wfS e.l) (hel : e.l.length < 1000000) (hes : e.s.length ≤ a.length) {k : Nat} (hb : ∀ c ∈ a, c < 256) (hla : last < 65521) (hc : e.chk = 0) (hk : lidxN 32 a = some k) (hka : k ≤ a.length) (hst : ((sumN last (a.take k) : Nat) : Int) ≠ st) :
    ∃ t, callN X N (.yld 6) [strV a, i64 (bh : Int)] (hp71 j l used last 0 true none) = some (bl false, hp71 j l used last 24 false (some .ret) ++ t) := by
  obtain ⟨N, rfl⟩ : ∃ M, N = M + 1 := ⟨N - 1, by omega⟩
  have g1 : ((l.length : Int) == 4096) = false := by rw [beq_eq_false_iff_ne]; omega
  have h99 := hX.vc (k := 99) (F := fn99) rfl (f99 hX (N := N) (s := a) (by omega) ha)
  rw [hr] at h99
  simp only [strV, i64, bl, En.ds, List.map_cons, List.map_nil] at h99
  have h48 := hX.vc (k := 48) (F := fn48) rfl (f48 hX (N := N) (s := e.s) (acc := e.acc) (r := e.r) (t := e.t) (w := e.w) (l := e.l) (by omega) (by omega) hw hwl hel)
  have hc' : chkE e.s e.acc e.r e.t e.l = 0 := hc
  rw [hc'] at h48
  simp only [i64, enC, Int.natCast_zero] at h48
  have htk : (a.take k).length ≤ a.length := by rw [List.length_take]; omega
  have h74 := hX.vc (k := 74) (F := fn74) rfl (f74 hX (N := N) (s := a.take k) (a := last) (by omega) hla (fun c hcc => hb c (List.mem_of_mem_take hcc)) (by omega))
  have h100 : (zenv X N).prim 100 [.c (.d (.str a)), .c (.d (.int .u8 32))] = some (.c (.d (.int .i64 (k : Int)))) := by
    rw [zenv_pr]
    refine hX.prim ?_
    show (if (0 : Int) ≤ 32 ∧ a.length < 4611686018427387904 then some (I64 (oInt (lidxN (32 : Int).toNat a))) else none) = _
    rw [if_pos ⟨by omega, by omega⟩, show (32 : Int).toNat = 32 from rfl, hk]
    rfl
  have g0 : ((0 : Int) != 0) = false := rfl
  have g2 : (((sumN last (a.take k) : Nat) : Int) != st) = true := by rw [bne_iff_ne]; exact hst
  generalize sumN last (a.take k) = sm at *
  simp only [strV, i64] at h74
  have p10 : apart (.c (.ptr 1 0 0)) (.c (.ptr 0 0 0)) = true := rfl
  have p20 : apart (.c (.ptr 2 0 0)) (.c (.ptr 0 0 0)) = true := rfl
  have p21 : apart (.c (.ptr 2 0 0)) (.c (.ptr 1 0 0)) = true := rfl
  unfold hp71
  generalize eC l = ec at *
  generalize l.length = n at *
  refine ⟨[.cells [.d (.str e.s), .d (.bool e.acc), .d (.int .u8 (e.r : Int)), .d (.int .i64 e.t), .d e.w] 0 false], ?_⟩
  refine (callN_yld2 (X := X) (n := N) (id := 6) (p := 13) (p' := 14) (regs := regs71 j) (regs1 := regs71 j) (regs2 := regs71 j) (ps1 := [13, 14]) (ps2 := [13, 14]) (asg := fn71A) (body := fn71B) (asg1 := fn71A) (body1 := fn71B) (asg2 := fn71A) (body2 := fn71B) (s1 := ⟨[strV j, .c (.ptr 0 0 0), .c (.ptr 1 0 0), .c (.ptr 2 0 0), .c (.ptr 3 0 0), strV a, i64 (bh : Int), .any, .any, .any, .any, .any, .c fnLj, strV a, i64 (bh : Int), .any, .any, .any, .any], [.cells [.os 5 n 0 n 5 none] 0 false, .cells [.d (.int .i64 (used : Int))] 0 false, .cells [.d (.int .i64 (last : Int))] 0 false, .cells [.d (.int .i64 ((0 : Nat) : Int))] 0 false, .cells [.d (.str j)] 0 false, .cells ec n false, .loop true none (regs71 j) [13, 14] fn71A fn71B]⟩)
    (s2 := ⟨[strV j, .c (.ptr 0 0 0), .c (.ptr 1 0 0), .c (.ptr 2 0 0), .c (.ptr 3 0 0), strV a, i64 (bh : Int), .c (.ptr 7 0 0), i64 st, bl true, i64 0, i64 (sm : Int), .c fnLj, strV a, i64 (bh : Int), bl false, bl false, bl false, bl true], [.cells [.os 5 n 0 n 5 none] 0 false, .cells [.d (.int .i64 (used : Int))] 0 false, .cells [.d (.int .i64 (last : Int))] 0 false, .cells [.d (.int .i64 (24 : Int))] 0 false, .cells [.d (.str j)] 0 false, .cells ec n false, .loop false none (regs71 j) [13, 14] fn71A fn71B, .cells [.d (.str e.s), .d (.bool e.acc), .d (.int .u8 (e.r : Int)), .d (.int .i64 e.t), .d e.w] 0 false]⟩) (e := .ret) rfl ?_ rfl ?_ rfl).trans rfl
  · simp only [fn71A, evs]
  · simp only [fn71B, ob?, strV, optNat, splice, rg_ap, p10, p20, p21, g0, g1, g2, h99, h48, h74, h100, hka, Int.cast_ofNat_Int, Option.map_none, Option.map_some, Nat.zero_le, Nat.le_refl, Bool.not_true, List.take, List.drop, List.map_cons, List.map_nil, List.set_cons_zero, List.set_cons_succ, freeze_nil, reachV, reachC, ite_self, List.flatMap_cons, List.flatMap_nil, ↓sp_len, evs, Nat.reduceAdd]
end Mini
end Go.Proofs.YtgjlofpfbhioaaaGreatDoor
namespace Go.Proofs.YtgjlofpfbhioaaaGreatDoor
namespace Mini
open Go
variable {m : Int} {X : Ctx}
theorem lidx_none {c : Nat} : ∀ {s : List Nat}, lidxN c s = none → splitN c s = [s]
  | [], _ => rfl
  | x :: s, h => by
    unfold lidxN at h
    split at h
    · cases h
    · rename_i h2
      split at h
      · cases h
      · rename_i h3
        simp only [splitN, if_neg h3, lidx_none h2]
theorem lidx_lt {c : Nat} : ∀ {s : List Nat} {k : Nat}, lidxN c s = some k → k < s.length
  | [], _, h => by cases h
  | x :: s, k, h => by
    unfold lidxN at h
    split at h
    · rename_i k' h2
      cases h
      have := lidx_lt h2
      simp only [List.length_cons]; omega
    · split at h
      · cases h; simp
      · cases h
theorem readE_ok {s : List Nat} : isSet (readE s).1.w (readE s).1.l ∧ wfS (readE s).1.l ∧ (readE s).1.s.length ≤ s.length ∧ (readE s).1.l.length ≤ s.length + 1 ∧ ((readE s).2.2 = true → ∃ k, lidxN 32 s = some k ∧ k ≤ s.length) := by
  obtain ⟨h1, h2⟩ := splitN_len 32 s
  obtain ⟨h3, _⟩ := splitN_len 44 ((splitN 32 s).getD 2 [])
  have h4 := getD_len _ _ 2 h2
  have h5 := getD_len _ _ 0 h2
  have hz : isSet e0.w e0.l ∧ wfS e0.l ∧ e0.s.length ≤ s.length ∧ e0.l.length ≤ s.length + 1 ∧ (false = true → ∃ k, lidxN 32 s = some k ∧ k ≤ s.length) := ⟨.inl ⟨rfl, rfl⟩, (fun _ h => by cases h), Nat.zero_le _, Nat.zero_le _, fun h => by cases h⟩
  unfold readE
  by_cases c1 : (splitN 32 s).length < 4
  · rw [if_pos c1]; exact hz
  rw [if_neg c1]
  have hk : ∃ k, lidxN 32 s = some k ∧ k ≤ s.length := by
    cases hl : lidxN 32 s with
    | none =>
      rw [lidx_none hl] at c1
      exact absurd (by simp) c1
    | some k => exact ⟨k, rfl, Nat.le_of_lt (lidx_lt hl)⟩
  split
  · exact hz
  split
  · split
    · exact ⟨.inl ⟨rfl, rfl⟩, (fun _ h => by cases h), h5, Nat.zero_le _, fun _ => hk⟩
    split
    · refine ⟨.inr rfl, osP_wf _ _, h5, ?_, fun _ => hk⟩
      simp only [osJ]
      rw [osP_len _ (Nat.le_refl _)]
      omega
    · exact hz
  split
  · split
    · exact hz
    · exact ⟨.inl ⟨rfl, rfl⟩, (fun _ h => by cases h), h5, Nat.zero_le _, fun _ => hk⟩
  · exact hz
def sumL (la : Nat) (a : List Nat) : Nat := sumN la (a.take ((lidxN 32 a).getD 0))
def parseJ : Nat → List En → Nat → Nat → List Nat → List En × Nat × Nat × Nat
  | 0, l, u, la, _ => (l, u, la, 0)
  | f + 1, l, u, la, s => match idxN 10 s with
    | none => (l, u, la, 0)
    | some i =>
      if l.length = 4096 then (l, u, la, 3)
      else if (readE (s.take i)).2.2 = false then (l, u, la, 6)
      else if (readE (s.take i)).1.chk ≠ 0 then (l, u, la, (readE (s.take i)).1.chk)
      else if ((sumL la (s.take i) : Nat) : Int) ≠ (readE (s.take i)).2.1 then (l, u, la, 24)
      else parseJ f (l ++ [newE (readE (s.take i)).1]) (u + i + 1) (sumL la (s.take i)) (s.drop (i + 1))
abbrev R120 (u : Nat) : List V := [.c (.yld 6), .c (.ptr 4 0 0), i64 (u : Int), .any, .any]
theorem p121 (hX : XOj m X) {N : Nat} {s : List Nat} : (zenv X N).prim 121 [.c (.d (.str s)), .c (.d (.int .u8 10))] = some (.c (.d (.int .i64 (oInt (idxN 10 s))))) := by
  rw [zenv_pr]
  refine hX.prim ?_
  show (if (0 : Int) ≤ 10 ∧ (10 : Int) < 256 then some (I64 (oInt (idxN (10 : Int).toNat s))) else none) = _
  rw [if_pos ⟨by omega, by omega⟩]
  rfl
theorem r120_end (hX : XOj m X) {N : Nat} {j : List Nat} {l : List En} {u la : Nat} (_hj : j.length ≤ 1100000) (hu : u ≤ j.length) (hi : idxN 10 (j.drop u) = none) :
    ∃ r, exec (zenv X N) N false fn120L0 ⟨R120 u, hp71 j l u la 0 true none⟩ = some (.ret, ⟨r, hp71 j l u la 0 true none⟩) := by
  have hpc := p121 hX (N := N) (s := j.drop u)
  rw [hi] at hpc
  have h4 : (hp71 j l u la 0 true none)[4]? = some (.cells [.d (.str j)] 0 false) := rfl
  have ho : oInt none = -1 := rfl
  rw [ho] at hpc
  have k1 : (-1 : Int) < 0 := by omega
  have htk : j.take j.length = j := List.take_length
  generalize hp71 j l u la 0 true none = HH at *
  refine ⟨[.c (.yld 6), .c (.ptr 4 0 0), i64 (u : Int), i64 (-1), bl true], ?_⟩
  simp only [fn120L0, R120, optNat, hpc, h4, htk, hu, k1, Option.map_none, Option.map_some, Nat.le_refl, and_self, List.drop_zero, List.take, freeze_nil, reachV, reachC, ite_self, List.flatMap_cons, List.flatMap_nil, evs]
end Mini
end Go.Proofs.YtgjlofpfbhioaaaGreatDoor
namespace Go.Proofs.YtgjlofpfbhioaaaGreatDoor
namespace Mini
open Go
variable {m : Int} {X : Ctx}
theorem r120 (hX : XOj m X) {N : Nat} {j : List Nat} {u i : Nat} {HH H2 : Heap} {ok : Bool} (hj : j.length ≤ 1100000) (hu : u + i ≤ j.length) (hi : idxN 10 (j.drop u) = some i) (h4 : HH[4]? = some (.cells [.d (.str j)] 0 false)) (hy : callN X N (.yld 6) [strV ((j.drop u).take i), i64 ((u + i + 1 : Nat) : Int)] HH = some (bl ok, H2)) :
    ∃ r, exec (zenv X N) N false fn120L0 ⟨R120 u, HH⟩ = some (if ok then .nrm else .ret, ⟨r, H2⟩) ∧ (ok = true → keepOnly [0, 1, 2] 0 r = R120 (u + i + 1)) := by
  have hpc := p121 hX (N := N) (s := j.drop u)
  rw [hi] at hpc
  have ho : oInt (some i) = (i : Int) := rfl
  rw [ho] at hpc
  have k1 : ¬ (i : Int) < 0 := by omega
  have k2 : u ≤ j.length := by omega
  have k3 : u ≤ u + i := by omega
  have htk : j.take j.length = j := List.take_length
  have hsl : (j.take (u + i)).drop u = (j.drop u).take i := by rw [List.drop_take, Nat.add_sub_cancel_left]
  have w1 : IntKind.i64.wrap ((u : Int) + (i : Int)) = ((u + i : Nat) : Int) := by rw [← wrap_nat (k := u + i) (by omega)]; simp
  have w2 := wrap_succ (k := u + i) (by omega)
  have w3 := wrap_succ (k := i) (by omega)
  have w4 : IntKind.i64.wrap ((u : Int) + ((i + 1 : Nat) : Int)) = ((u + i + 1 : Nat) : Int) := by rw [← wrap_nat (k := u + i + 1) (by omega)]; congr 1
  generalize (j.drop u).take i = a at *
  simp only [strV, i64, bl] at hy
  cases ok
  · refine ⟨[.c (.yld 6), .c (.ptr 4 0 0), i64 (u : Int), i64 (i : Int), bl true], ?_, fun h => by cases h⟩
    simp only [fn120L0, R120, optNat, hpc, h4, htk, hsl, hy, k1, k2, k3, hu, w1, w2, Option.map_none, Option.map_some, Nat.le_refl, and_self, Bool.not_false, List.drop_zero, List.take, List.map_cons, List.map_nil, freeze_nil, reachV, reachC, ite_self, List.flatMap_cons, List.flatMap_nil, evs]
  · refine ⟨[.c (.yld 6), .c (.ptr 4 0 0), i64 ((u + i + 1 : Nat) : Int), i64 (i : Int), bl false], ?_, fun _ => rfl⟩
    simp only [fn120L0, R120, optNat, hpc, h4, htk, hsl, hy, k1, k2, k3, hu, w1, w2, w3, w4, Option.map_none, Option.map_some, Nat.le_refl, and_self, Bool.not_true, List.drop_zero, List.take, List.map_cons, List.map_nil, freeze_nil, reachV, reachC, ite_self, List.flatMap_cons, List.flatMap_nil, evs]
theorem eC_d (l : List En) : (eC l).all C.isD = true := by
  rw [List.all_eq_true]
  intro c hc
  obtain ⟨d, _, rfl⟩ := List.mem_map.1 hc
  rfl
theorem hp71_tidy {j : List Nat} {l : List En} {u la w : Nat} {t : Heap} {r : List V} (hr : keepOnly [0, 1, 2] 0 r = R120 w) : tidy 7 (some [0, 1, 2]) ⟨r, hp71 j l u la 0 true none ++ t⟩ = ⟨R120 w, hp71 j l u la 0 true none⟩ := by
  show gc 7 ⟨keepOnly [0, 1, 2] 0 r, _⟩ = _
  rw [hr]
  have hu := undersC_d 7 _ (eC_d l)
  refine gc_yes rfl ?_
  simp only [hp71, List.cons_append, List.nil_append, List.take_succ_cons, List.take_zero, List.all_cons, List.all_nil, Ob.under, hu, Bool.and_true, Bool.and_self]
  rfl
theorem idx_le {c : Nat} : ∀ {s : List Nat} {k : Nat}, idxN c s = some k → k < s.length
  | [], _, h => by cases h
  | x :: s, k, h => by
    unfold idxN at h
    split at h
    · cases h; simp
    · split at h
      · rename_i k' h2
        cases h
        have := idx_le h2
        simp only [List.length_cons]; omega
      · cases h
theorem it120 (hX : XOj m X) {N : Nat} {j : List Nat} (hN : j.length + 1000 ≤ N) (hj : j.length < 800000) (hb : ∀ c ∈ j, c < 256) : ∀ (f fuel : Nat) (l : List En) (u la : Nat), (j.drop u).length < f → f ≤ fuel → u ≤ j.length → l.length ≤ 4096 → la < 65521 →
    ∃ r H, iter (some [0, 1, 2]) 7 (exec (zenv X N) N false fn120L0) fuel ⟨R120 u, hp71 j l u la 0 true none⟩ = some (.ret, ⟨r, H⟩) ∧ ∃ t, H = (if (parseJ f l u la (j.drop u)).2.2.2 = 0 then hp71 j (parseJ f l u la (j.drop u)).1 (parseJ f l u la (j.drop u)).2.1 (parseJ f l u la (j.drop u)).2.2.1 0 true none else hp71 j (parseJ f l u la (j.drop u)).1 (parseJ f l u la (j.drop u)).2.1 (parseJ f l u la (j.drop u)).2.2.1 (parseJ f l u la (j.drop u)).2.2.2 false (some .ret)) ++ t := by
  intro f
  induction f with
  | zero => intro fuel l u la h; exact absurd h (Nat.not_lt_zero _)
  | succ f ih =>
    intro fuel l u la hf hfu hu hl hla
    obtain ⟨fuel, rfl⟩ : ∃ k, fuel = k + 1 := ⟨fuel - 1, by omega⟩
    have out : ∀ {s' : St} {st : St}, exec (zenv X N) N false fn120L0 st = some (.ret, s') → iter (some [0, 1, 2]) 7 (exec (zenv X N) N false fn120L0) (fuel + 1) st = some (.ret, s') := by
      intro s' st h
      simp only [iter, h]
    unfold parseJ
    cases hi : idxN 10 (j.drop u) with
    | none =>
      obtain ⟨r, h1⟩ := r120_end hX (N := N) (l := l) (la := la) (by omega) hu hi
      exact ⟨r, _, out h1, [], by simp⟩
    | some i =>
      have hil := idx_le hi
      rw [List.length_drop] at hil hf
      have h4 : (hp71 j l u la 0 true none)[4]? = some (.cells [.d (.str j)] 0 false) := rfl
      have hal : ((j.drop u).take i).length ≤ j.length := by rw [List.length_take, List.length_drop]; omega
      have hab : ∀ c ∈ (j.drop u).take i, c < 256 := fun c hc => hb c (List.mem_of_mem_drop (List.mem_of_mem_take hc))
      obtain ⟨e1, e2, e3, e4, e5⟩ := readE_ok (s := (j.drop u).take i)
      have bad : ∀ {H2 : Heap} (c : Nat), c ≠ 0 → callN X N (.yld 6) [strV ((j.drop u).take i), i64 ((u + i + 1 : Nat) : Int)] (hp71 j l u la 0 true none) = some (bl false, hp71 j l u la c false (some .ret) ++ H2) → ∃ r H, iter (some [0, 1, 2]) 7 (exec (zenv X N) N false fn120L0) (fuel + 1) ⟨R120 u, hp71 j l u la 0 true none⟩ = some (.ret, ⟨r, H⟩) ∧ ∃ t, H = (if c = 0 then hp71 j l u la 0 true none else hp71 j l u la c false (some .ret)) ++ t := by
        intro H2 c hc hy
        obtain ⟨r, h1, _⟩ := r120 hX (N := N) (by omega) (by omega) hi h4 hy
        exact ⟨r, _, out h1, H2, by rw [if_neg hc]⟩
      simp only
      by_cases c1 : l.length = 4096
      · rw [if_pos c1]
        obtain ⟨t, hy⟩ := yl71l hX (N := N) (j := j) (a := (j.drop u).take i) (l := l) (used := u) (last := la) (bh := u + i + 1) (by omega) c1
        exact bad 3 (by omega) hy
      rw [if_neg c1]
      by_cases c2 : (readE ((j.drop u).take i)).2.2 = false
      · rw [if_pos c2]
        obtain ⟨t, hy⟩ := yl71f hX (N := N) (j := j) (a := (j.drop u).take i) (l := l) (used := u) (last := la) (bh := u + i + 1) (e := (readE ((j.drop u).take i)).1) (st := (readE ((j.drop u).take i)).2.1) (by omega) (by omega) (by omega) (by rw [← c2])
        exact bad 6 (by omega) hy
      rw [if_neg c2]
      have hrt : (readE ((j.drop u).take i)).2.2 = true := by simpa using c2
      have hr : readE ((j.drop u).take i) = ((readE ((j.drop u).take i)).1, (readE ((j.drop u).take i)).2.1, true) := by rw [← hrt]
      obtain ⟨k, hk, hka⟩ := e5 hrt
      by_cases c3 : (readE ((j.drop u).take i)).1.chk ≠ 0
      · rw [if_pos c3]
        obtain ⟨t, hy⟩ := yl71c hX (N := N) (j := j) (a := (j.drop u).take i) (l := l) (used := u) (last := la) (bh := u + i + 1) (by omega) (by omega) (by omega) hr e1 e2 (by omega) e3 rfl c3
        exact bad _ c3 hy
      rw [if_neg c3]
      have c3' : (readE ((j.drop u).take i)).1.chk = 0 := Decidable.not_not.1 c3
      have hsm : sumL la ((j.drop u).take i) = sumN la (((j.drop u).take i).take k) := by unfold sumL; rw [hk]; rfl
      rw [hsm]
      by_cases c4 : ((sumN la (((j.drop u).take i).take k) : Nat) : Int) ≠ (readE ((j.drop u).take i)).2.1
      · rw [if_pos c4]
        obtain ⟨t, hy⟩ := yl71s hX (N := N) (j := j) (a := (j.drop u).take i) (l := l) (used := u) (last := la) (bh := u + i + 1) (by omega) (by omega) (by omega) hr e1 e2 (by omega) e3 hab hla c3' hk hka c4
        exact bad 24 (by omega) hy
      rw [if_neg c4]
      obtain ⟨t, hy⟩ := yl71 hX (N := N) (j := j) (a := (j.drop u).take i) (l := l) (used := u) (last := la) (k := k) (bh := u + i + 1) (by omega) (by omega) hab (by omega) hla hr e1 e2 (by omega) e3 c3' hk hka (Decidable.not_not.1 c4)
      obtain ⟨r, h1, h2⟩ := r120 hX (N := N) (by omega) (by omega) hi h4 hy
      have hdd : (j.drop u).drop (i + 1) = j.drop (u + i + 1) := by rw [List.drop_drop]; congr 1
      rw [hdd]
      obtain ⟨r2, H, h3, h5⟩ := ih fuel (l ++ [newE (readE ((j.drop u).take i)).1]) (u + i + 1) (sumN la (((j.drop u).take i).take k)) (by rw [List.length_drop]; omega) (by omega) (by omega) (by rw [List.length_append, List.length_singleton]; omega) (sumN_lt _ hla)
      refine ⟨r2, H, ?_, h5⟩
      rw [iter_step h1, hp71_tidy (h2 rfl)]
      exact h3
end Mini
end Go.Proofs.YtgjlofpfbhioaaaGreatDoor
namespace Go.Proofs.YtgjlofpfbhioaaaGreatDoor
namespace Mini
open Go
variable {m : Int} {X : Ctx}
theorem f98 (hX : XOj m X) {N : Nat} (hN : 1 ≤ N) {j : List Nat} {H : Heap} : callN X N (.d (.fn 98 [] [])) [strV j] H = some (.c (.fn 120 [] [.ptr H.length 0 0]), H ++ [.cells [.d (.str j)] 0 false]) := by
  obtain ⟨N, rfl⟩ : ∃ M, N = M + 1 := ⟨N - 1, by omega⟩
  rw [hX.fn (F := fn98) rfl]
  refine (rf_fin _ _ _ _ _ _ _ _ _ (by rfl)).trans ?_
  simp only [strV, V.one, evs, Nat.reduceSub]
theorem c120 (hX : XOj m X) {N : Nat} {j : List Nat} (hN : j.length + 1010 ≤ N) (hj : j.length < 800000) (hb : ∀ c ∈ j, c < 256) : ∃ H, callN X N fnLj [.c (.yld 6)] (hp71 j [] 0 0 0 true none) = some (.tup [], H) ∧ ∃ t, H = (if (parseJ (j.length + 1) [] 0 0 j).2.2.2 = 0 then hp71 j (parseJ (j.length + 1) [] 0 0 j).1 (parseJ (j.length + 1) [] 0 0 j).2.1 (parseJ (j.length + 1) [] 0 0 j).2.2.1 0 true none else hp71 j (parseJ (j.length + 1) [] 0 0 j).1 (parseJ (j.length + 1) [] 0 0 j).2.1 (parseJ (j.length + 1) [] 0 0 j).2.2.1 (parseJ (j.length + 1) [] 0 0 j).2.2.2 false (some .ret)) ++ t := by
  obtain ⟨N, rfl⟩ : ∃ M, N = M + 1 := ⟨N - 1, by omega⟩
  have hF : fnsX 120 = some fn120' := rfl
  have hcall : callN X (N + 1) fnLj [.c (.yld 6)] (hp71 j [] 0 0 0 true none) = runFn (zenv X N) N fn120' [.c (.yld 6), .c (.ptr 4 0 0)] (hp71 j [] 0 0 0 true none) := callN_fnc (CtxLe.fns (X := XJ m) hX hF)
  obtain ⟨r, H, hit, ht⟩ := it120 hX (N := N) (j := j) (by omega) hj hb (j.length + 1) N [] 0 0 (by rw [List.drop_zero]; omega) (by omega) (Nat.zero_le _) (by simp) (by decide)
  rw [List.drop_zero] at ht
  refine ⟨H, ?_, ht⟩
  rw [hcall]
  have hlen : (hp71 j [] 0 0 0 true none).length = 7 := rfl
  simp only [R120, i64, Int.natCast_zero] at hit
  generalize hp71 j [] 0 0 0 true none = HH at *
  refine (rf_fin _ _ _ _ _ _ _ _ _ (by rfl)).trans ?_
  simp only [hlen, hit, evs, Nat.reduceAdd, Nat.reduceBEq, Nat.reduceSub]
theorem f71 (hX : XOj m X) {N : Nat} {j : List Nat} (hN : j.length + 1100 ≤ N) (hj : j.length < 800000) (hb : ∀ c ∈ j, c < 256) : ∃ H, callN X N (.d (.fn 71 [] [])) [strV j] [] = some (.tup [.c (.os 5 (parseJ (j.length + 1) [] 0 0 j).1.length 0 (parseJ (j.length + 1) [] 0 0 j).1.length 5 none), i64 (parseJ (j.length + 1) [] 0 0 j).2.1, i64 (parseJ (j.length + 1) [] 0 0 j).2.2.1, i64 (parseJ (j.length + 1) [] 0 0 j).2.2.2], H) ∧ H[5]? = some (.cells (eC (parseJ (j.length + 1) [] 0 0 j).1) (parseJ (j.length + 1) [] 0 0 j).1.length false) := by
  obtain ⟨N, rfl⟩ : ∃ M, N = M + 1 := ⟨N - 1, by omega⟩
  have hF : fnsX 71 = some fn71'' := rfl
  obtain ⟨H, hc, t, rfl⟩ := c120 hX (N := N) (j := j) (by omega) hj hb
  have h98 := f98 hX (N := N) (by omega) (j := j) (H := [.cells [.d .nils] 0 false, .cells [.d (.int .i64 0)] 0 false, .cells [.d (.int .i64 0)] 0 false, .cells [.d (.int .i64 0)] 0 false])
  simp only [strV] at h98
  have hfr : exec (zenv X N) N false (.fresh 1 (some 0) 5) ⟨regs71 j, [.cells [.d .nils] 0 false, .cells [.d (.int .i64 0)] 0 false, .cells [.d (.int .i64 0)] 0 false, .cells [.d (.int .i64 0)] 0 false, .cells [.d (.str j)] 0 false]⟩ = some (.nrm, ⟨regs71 j, [.cells [.os 5 0 0 0 5 none] 0 false, .cells [.d (.int .i64 0)] 0 false, .cells [.d (.int .i64 0)] 0 false, .cells [.d (.int .i64 0)] 0 false, .cells [.d (.str j)] 0 false, .cells [] 0 false]⟩) := rfl
  have p10 : apart (.c (.ptr 1 0 0)) (.c (.ptr 0 0 0)) = true := rfl
  have p20 : apart (.c (.ptr 2 0 0)) (.c (.ptr 0 0 0)) = true := rfl
  have p21 : apart (.c (.ptr 2 0 0)) (.c (.ptr 1 0 0)) = true := rfl
  generalize parseJ (j.length + 1) [] 0 0 j = P at *
  obtain ⟨l, u, la, er⟩ := P
  simp only at hc ⊢
  rw [hX.fn hF]
  by_cases h0 : er = 0
  · rw [if_pos h0] at hc
    subst h0
    have hrf := ex_rf (E := zenv X N) (N := N) (f := .r 12) (ps := [13, 14]) (asg := fn71A) (body := fn71B) (regs := regs71 j) (H := [.cells [.os 5 0 0 0 5 none] 0 false, .cells [.d (.int .i64 0)] 0 false, .cells [.d (.int .i64 0)] 0 false, .cells [.d (.int .i64 0)] 0 false, .cells [.d (.str j)] 0 false, .cells [] 0 false]) (x := fnLj) rfl rfl hc rfl
    unfold hp71 at hrf
    generalize eC l = ec at *
    generalize l.length = n at *
    refine ⟨[.cells [.os 5 n 0 n 5 none] 0 false, .cells [.d (.int .i64 (u : Int))] 0 false, .cells [.d (.int .i64 (la : Int))] 0 false, .cells [.d (.int .i64 0)] 0 false, .cells [.d (.str j)] 0 false, .cells ec n false, .dead] ++ t, ?_, rfl⟩
    refine (rf_fin _ _ _ _ _ _ _ _ _ (by rfl)).trans ?_
    simp only [strV, regs71, List.length_cons, List.length_nil, Nat.reduceAdd, List.cons_append, List.nil_append, List.set_cons_zero, List.set_cons_succ, Int.natCast_zero] at hrf hfr
    simp only [ob?, strV, splice, rg_ap, p10, p20, p21, h98, hfr, hrf, Int.natCast_zero, List.take, List.drop, List.map_cons, List.map_nil, List.set_cons_zero, List.set_cons_succ, evs, Nat.reduceAdd, Nat.reduceLeDiff, Nat.reduceSub]
  · rw [if_neg h0] at hc
    have hrf := ex_rf_out (E := zenv X N) (N := N) (f := .r 12) (ps := [13, 14]) (asg := fn71A) (body := fn71B) (regs := regs71 j) (H := [.cells [.os 5 0 0 0 5 none] 0 false, .cells [.d (.int .i64 0)] 0 false, .cells [.d (.int .i64 0)] 0 false, .cells [.d (.int .i64 0)] 0 false, .cells [.d (.str j)] 0 false, .cells [] 0 false]) (x := fnLj) (e := .ret) rfl rfl hc rfl
    unfold hp71 at hrf
    generalize eC l = ec at *
    generalize l.length = n at *
    refine ⟨[.cells [.os 5 n 0 n 5 none] 0 false, .cells [.d (.int .i64 (u : Int))] 0 false, .cells [.d (.int .i64 (la : Int))] 0 false, .cells [.d (.int .i64 (er : Int))] 0 false, .cells [.d (.str j)] 0 false, .cells ec n false, .dead] ++ t, ?_, rfl⟩
    refine (rf_fin _ _ _ _ _ _ _ _ _ (by rfl)).trans ?_
    simp only [strV, regs71, List.length_cons, List.length_nil, Nat.reduceAdd, List.cons_append, List.nil_append, List.set_cons_zero, List.set_cons_succ] at hrf hfr
    simp only [ob?, strV, h98, hfr, hrf, List.take, List.drop, List.map_cons, List.map_nil, evs, Nat.reduceAdd, Nat.reduceSub]
end Mini
end Go.Proofs.YtgjlofpfbhioaaaGreatDoor
namespace Go.Proofs.YtgjlofpfbhioaaaGreatDoor
namespace Mini
open Go
variable {m : Int} {X : Ctx}
abbrev pJ (j : List Nat) : List En × Nat × Nat × Nat := parseJ (j.length + 1) [] 0 0 j
theorem f75 (hX : XOj m X) {N : Nat} (hN : 1 ≤ N) {id g n : Nat} {H : Heap} : callN X N (.d (.fn 75 [] [])) [.c (.os id g 0 n 5 none)] H = some (.c (.os id g 0 n 5 (some n)), H) := by
  obtain ⟨N, rfl⟩ : ∃ M, N = M + 1 := ⟨N - 1, by omega⟩
  rw [hX.fn (F := fn75) rfl]
  refine (rf_fin _ _ _ _ _ _ _ _ _ (by rfl)).trans ?_
  simp only [optNat, Option.map_none, Option.map_some, Option.getD_none, Nat.zero_le, Nat.le_refl, Nat.sub_zero, ↓sp_len, evs, Nat.reduceMul, Nat.reduceSub]
theorem f37 (hX : XOj m X) {N : Nat} {j : List Nat} (hN : j.length + 1200 ≤ N) (hj : j.length < 800000) (hb : ∀ c ∈ j, c < 256) (hl : (pJ j).1.length ≤ 4096) : ∃ H, callN X N (.d (.fn 37 [] [])) [strV j] [] = some (if (pJ j).2.2.2 = 0 then .tup [.c (.os 5 (pJ j).1.length 0 (pJ j).1.length 5 (some (pJ j).1.length)), i64 (pJ j).2.1, i64 0, i64 0] else .tup [.c (.d .nils), i64 0, i64 ((pJ j).1.length + 1 : Nat), i64 (pJ j).2.2.2], H) ∧ H[5]? = some (.cells (eC (pJ j).1) (pJ j).1.length false) := by
  obtain ⟨N, rfl⟩ : ∃ M, N = M + 1 := ⟨N - 1, by omega⟩
  have hF : fnsX 37 = some fn37' := rfl
  obtain ⟨H, h71, h5⟩ := f71 hX (N := N) (j := j) (by omega) hj hb
  have h75 := f75 hX (N := N) (by omega) (id := 5) (g := (pJ j).1.length) (n := (pJ j).1.length) (H := H)
  have hc : ¬ (j.length : Int) > 1048576 := by omega
  have hw := wrap_succ (k := (pJ j).1.length) (by omega)
  refine ⟨H, ?_, h5⟩
  rw [hX.fn hF]
  refine (rf_fin _ _ _ _ _ _ _ _ _ (by rfl)).trans ?_
  unfold pJ at *
  generalize (parseJ (j.length + 1) [] 0 0 j).1.length = n at *
  generalize (parseJ (j.length + 1) [] 0 0 j).2.1 = u at *
  generalize (parseJ (j.length + 1) [] 0 0 j).2.2.1 = la at *
  generalize (parseJ (j.length + 1) [] 0 0 j).2.2.2 = er at *
  simp only [strV, i64] at h71
  by_cases h0 : er = 0
  · subst h0
    rw [if_pos rfl]
    have g0 : ((0 : Int) != 0) = false := rfl
    simp only [strV, hc, h71, h75, g0, Int.natCast_zero, List.map_cons, List.map_nil, evs, Nat.reduceSub]
  · rw [if_neg h0]
    have g0 : ((er : Int) != 0) = true := by rw [bne_iff_ne]; omega
    simp only [strV, hc, h71, hw, g0, List.map_cons, List.map_nil, ↓sp_len, evs, Nat.reduceSub]
end Mini
end Go.Proofs.YtgjlofpfbhioaaaGreatDoor
namespace Go.Proofs.YtgjlofpfbhioaaaGreatDoor
namespace Mini
open Go
variable {m : Int} {X : Ctx}
theorem deep_en {H : Heap} {id g n : Nat} {l : List En} {f : Bool} {c : Option Nat} (hH : H[id]? = some (.cells (eC l) g f)) (hn : l.length = n) : deepC H deepMax (.os id g 0 n 5 c) = some (.sl (l.flatMap En.ds) n) := by
  have hal := eC_len l
  have p2 : ((eC l).drop 0).take (n * 5) = (l.flatMap En.ds).map .d := by
    rw [List.drop_zero, List.take_of_length_le (by omega)]; rfl
  have p1 : 0 + n * 5 ≤ (eC l).length := by omega
  simp only [deepMax, deepC, ob_eq, hH, if_true, if_pos p1, p2, mapO_d, Option.map_some]
theorem v71 (hX : XOj m X) {N : Nat} {j : List Nat} (hN : j.length + 1100 ≤ N) (hj : j.length < 800000) (hb : ∀ c ∈ j, c < 256) : (zenv X N).vcall 71 [strV j] = some (.tup [.c (.d (.sl ((pJ j).1.flatMap En.ds) (pJ j).1.length)), i64 (pJ j).2.1, i64 (pJ j).2.2.1, i64 (pJ j).2.2.2]) := by
  obtain ⟨H, h71, h5⟩ := f71 hX hN hj hb
  have hdp := deep_en (c := none) h5 rfl
  refine hX.vc (k := 71) (F := fn71) rfl (vcall_of h71 ?_)
  simp only [deepV, mapO, deepV1, hdp, Option.map_some, i64]
  rfl
end Mini
end Go.Proofs.YtgjlofpfbhioaaaGreatDoor
namespace Go.Proofs.YtgjlofpfbhioaaaGreatDoor
namespace Mini
open Go
theorem decF_short : ∀ f n k, n < 10 ^ (k + 1) → (decF f n).length ≤ k + 1
  | 0, n, k, _ => by simp [decF]
  | f + 1, n, k, h => by
    unfold decF
    split
    · simp
    · rename_i h10
      cases k with
      | zero => exact absurd (by simpa using h) h10
      | succ k =>
        have := decF_short f (n / 10) k (by rw [Nat.pow_succ] at h; omega)
        simp only [List.length_append, List.length_cons, List.length_nil]
        omega
theorem numS_dec {n : Nat} {k : Int} (hk : ((decN n).length : Int) ≤ k) (hn : n < 4294967296) : numS (decN n) k = (n : Int) := by
  have hd := decN_dec hn
  have hv := decN_num hn
  have hg := decF_dig 20 n
  have hall : (decN n).all isDig = true := List.all_eq_true.2 hg
  unfold decB at hd
  simp only [Bool.or_eq_true, Bool.and_eq_true, decide_eq_true_eq] at hd
  unfold numS
  rw [if_neg ?_, if_pos hall, hv]
  rintro (h | h | h)
  · rcases hd with h2 | h2
    · rw [h] at h2; cases h2
    · exact h2.1.1 h
  · omega
  · rcases hd with h2 | h2
    · rw [h2] at h; simp at h
    · exact h2.1.2 h.2
def lineT (a : Nat) (e : En) : List Nat := e.body ++ [32] ++ decN (sumN a e.body)
theorem lineE_T (a : Nat) (e : En) : lineE a e = lineT a e ++ [10] := rfl
theorem dig_no {c n : Nat} (h : c < 48) : c ∉ decN n := fun hm => by
  have := isDig_rng (decF_dig 20 n c hm)
  omega
theorem name_no {s : List Nat} {c : Nat} (h : nameB s = true) (hc : c < 45) : c ∉ s := fun hm => by
  have := okB_rng ((nameB_ok h).2.2 c hm)
  omega
theorem set_no {l : List Oid} {c : Nat} (hc : c < 44) : c ∉ setT l := fun hm => by
  have := setT_char l c hm
  omega
theorem reas_no {r c : Nat} (hc : c < 97) : c ∉ reasT r := by
  unfold reasT
  split
  · intro h; simp only [List.mem_cons, List.not_mem_nil, or_false] at h; omega
  split
  · intro h; simp only [List.mem_cons, List.not_mem_nil, or_false] at h; omega
  split
  · intro h; simp only [List.mem_cons, List.not_mem_nil, or_false] at h; omega
  · exact List.not_mem_nil
theorem rv_reas {r : Nat} (h1 : 1 ≤ r) (h3 : r ≤ 3) : rvJ (reasT r) 3 = r := by
  have : r = 1 ∨ r = 2 ∨ r = 3 := by omega
  rcases this with rfl | rfl | rfl <;> decide
end Mini
end Go.Proofs.YtgjlofpfbhioaaaGreatDoor
namespace Go.Proofs.YtgjlofpfbhioaaaGreatDoor
namespace Mini
open Go
theorem split_acc {s x d : List Nat} (h1 : 32 ∉ s) (h2 : 32 ∉ x) (h3 : 32 ∉ d) : splitN 32 (s ++ wAcc ++ x ++ [32] ++ d) = [s, accW, x, d] := by
  have h : s ++ wAcc ++ x ++ [32] ++ d = s ++ 32 :: (accW ++ 32 :: (x ++ 32 :: d)) := by simp [wAcc, accW]
  rw [h, splitN_cons _ h1, splitN_cons _ (show 32 ∉ accW by decide), splitN_cons _ h2, splitN_word h3]
theorem split_rej {s x y d : List Nat} (h1 : 32 ∉ s) (h2 : 32 ∉ x) (h3 : 32 ∉ y) (h4 : 32 ∉ d) : splitN 32 (s ++ wRej ++ x ++ [32] ++ y ++ [32] ++ d) = [s, rejW, x, y, d] := by
  have h : s ++ wRej ++ x ++ [32] ++ y ++ [32] ++ d = s ++ 32 :: (rejW ++ 32 :: (x ++ 32 :: (y ++ 32 :: d))) := by simp [wRej, rejW]
  rw [h, splitN_cons _ h1, splitN_cons _ (show 32 ∉ rejW by decide), splitN_cons _ h2, splitN_cons _ h3, splitN_word h4]
theorem setT_ne {l : List Oid} (hl : l.length ≠ 0) : setT l ≠ [45] := by
  intro h
  have hs := split_set (l := l) (by rintro rfl; exact hl rfl)
  rw [h] at hs
  have h2 : splitN 44 [45] = [[45]] := by decide
  rw [h2] at hs
  cases l with
  | nil => exact hl rfl
  | cons o l =>
    rw [List.map_cons] at hs
    have h3 : textO o = [45] := by
      have := List.cons.inj hs
      exact this.1.symm
    have := textO_char o 45 (by rw [h3]; simp)
    rcases this with h4 | h4
    · have := isDig_rng h4; omega
    · omega
theorem set_back {l : List Oid} (hl : l.length ≠ 0) (hw : wfS l) (hc : chkS l = 0) : itemsOk (splitN 44 (setT l)) ∧ osJ (setT l) = l := by
  have hs := split_set (l := l) (by rintro rfl; exact hl rfl)
  have hp : ∀ o ∈ l, parseO (textO o) = (o, 0) := fun o ho => parse_text (hw o ho) (chkS_ok hc o ho)
  refine ⟨fun j hj => ?_, ?_⟩
  · rw [hs] at hj ⊢
    rw [List.length_map] at hj
    rw [List.getD_eq_getElem?_getD, List.getElem?_map, List.getElem?_eq_getElem hj]
    simp only [Option.map_some, Option.getD_some, hp _ (List.getElem_mem hj)]
  · unfold osJ osP
    rw [hs, List.take_of_length_le (Nat.le_refl _), List.map_map]
    have : ∀ o ∈ l, ((fun x => (parseO x).1) ∘ textO) o = o := fun o ho => by simp [hp o ho]
    rw [List.map_congr_left this, List.map_id']
theorem readE_line {e : En} {a : Nat} (hc : e.chk = 0) (hw : wfS e.l) (ha : a < 65521) : readE (lineT a e) = (newE e, ((sumN a e.body : Nat) : Int), true) := by
  obtain ⟨p1, p2, p3⟩ := chkE_parts hc
  have hsm := sumN_lt e.body ha
  have hd5 : (decN (sumN a e.body)).length ≤ 5 := decF_short 20 _ 4 (by omega)
  have hnum := numS_dec (n := sumN a e.body) (k := 5) (by omega) (by omega)
  have hneg : ¬ ((sumN a e.body : Nat) : Int) < 0 := by omega
  have hnar : ¬ accW = rejW := by decide
  have hnra : ¬ rejW = accW := by decide
  unfold lineT
  generalize hS : sumN a e.body = sm at *
  obtain ⟨s, acc, r, t, w, l⟩ := e
  simp only [En.body, En.chk] at hc p1 p2 p3 hw ⊢
  unfold bodyE
  have n1 := name_no (c := 32) p1 (by omega)
  have n4 := dig_no (c := 32) (n := sm) (by omega)
  cases acc
  · obtain ⟨e1, e2, e3, e4, e5⟩ := chkE_rej hc
    obtain ⟨n, rfl⟩ := Int.eq_ofNat_of_zero_le e3
    have hl0 : l = [] := List.length_eq_zero_iff.1 e5
    subst hl0
    rw [if_pos rfl, Int.toNat_natCast]
    have hd3 : (decN n).length ≤ 2 := decF_short 20 n 1 (by omega)
    have hn3 := numS_dec (n := n) (k := 3) (by omega) (by omega)
    have hr0 := rv_reas e1 e2
    have hne : ¬ ((n : Nat) : Int) < 0 := by omega
    unfold readE
    rw [split_rej n1 (reas_no (by omega)) (dig_no (by omega)) n4]
    simp only [List.length_cons, List.length_nil, Nat.reduceAdd, Nat.reduceSub, Nat.reduceLT, if_false, List.getD_cons_succ, List.getD_cons_zero, hnum, hneg, hnra, false_and, true_and, and_self, if_true, hr0, hn3]
    rw [if_neg (by rintro (h | h); omega; exact hne h)]
    rfl
  · rw [if_neg (by simp)]
    have hb : ¬ (r ≠ 0 ∨ t ≠ 0) := fun h => p2 (.inl ⟨rfl, h⟩)
    have hr0 : r = 0 := Decidable.not_not.1 fun h => hb (.inl h)
    have ht0 : t = 0 := Decidable.not_not.1 fun h => hb (.inr h)
    subst hr0
    subst ht0
    by_cases c1 : l.length = 0
    · rw [if_pos c1]
      have hl0 : l = [] := List.length_eq_zero_iff.1 c1
      subst hl0
      unfold readE
      rw [split_acc n1 (show 32 ∉ [45] by decide) n4]
      simp only [List.length_cons, List.length_nil, Nat.reduceAdd, Nat.reduceSub, Nat.reduceLT, if_false, List.getD_cons_succ, List.getD_cons_zero, hnum, hneg, and_self, if_true]
      rfl
    · rw [if_neg c1]
      obtain ⟨s1, s2⟩ := set_back c1 hw p3
      have hne := setT_ne c1
      unfold readE
      rw [split_acc n1 (set_no (by omega)) n4]
      simp only [List.length_cons, List.length_nil, Nat.reduceAdd, Nat.reduceSub, Nat.reduceLT, if_false, List.getD_cons_succ, List.getD_cons_zero, hnum, hneg, and_self, if_true, hne, s1, s2]
      simp only [newE, exD, if_neg c1]
end Mini
end Go.Proofs.YtgjlofpfbhioaaaGreatDoor
namespace Go.Proofs.YtgjlofpfbhioaaaGreatDoor
namespace Mini
open Go
theorem idx_word {c : Nat} (rest : List Nat) : ∀ {x : List Nat}, c ∉ x → idxN c (x ++ c :: rest) = some x.length
  | [], _ => by simp [idxN]
  | y :: x, h => by
    rw [List.mem_cons, not_or] at h
    rw [List.cons_append]
    unfold idxN
    rw [if_neg (Ne.symm h.1), idx_word rest h.2]
    rfl
theorem lidx_no {c : Nat} : ∀ {x : List Nat}, c ∉ x → lidxN c x = none
  | [], _ => rfl
  | y :: x, h => by
    rw [List.mem_cons, not_or] at h
    unfold lidxN
    rw [lidx_no h.2]
    simp only [if_neg (Ne.symm h.1)]
theorem lidx_word {c : Nat} {y : List Nat} (hy : c ∉ y) : ∀ x : List Nat, lidxN c (x ++ c :: y) = some x.length
  | [] => by
    rw [List.nil_append]
    unfold lidxN
    rw [lidx_no hy]
    simp
  | z :: x => by
    rw [List.cons_append]
    unfold lidxN
    rw [lidx_word hy x]
    rfl
theorem body_no {e : En} (hc : e.chk = 0) : 10 ∉ e.body := by
  obtain ⟨p1, _, _⟩ := chkE_parts hc
  have n1 := name_no (c := 10) p1 (by omega)
  have n2 : 10 ∉ wRej := by decide
  have n3 : 10 ∉ wAcc := by decide
  have n4 := set_no (l := e.l) (c := 10) (by omega)
  have n5 := reas_no (r := e.r) (c := 10) (by omega)
  have n6 := dig_no (c := 10) (n := e.t.toNat) (by omega)
  unfold En.body bodyE
  split
  · simp only [List.mem_append, List.mem_cons, List.not_mem_nil, or_false, not_or]
    exact ⟨⟨⟨⟨n1, n2⟩, n5⟩, by omega⟩, n6⟩
  split
  · simp only [List.mem_append, List.mem_cons, List.not_mem_nil, or_false, not_or]
    exact ⟨⟨n1, n3⟩, by omega⟩
  · simp only [List.mem_append, not_or]
    exact ⟨⟨n1, n3⟩, n4⟩
theorem line_no {e : En} (hc : e.chk = 0) (a : Nat) : 10 ∉ lineT a e := by
  have n1 := body_no hc
  have n2 := dig_no (c := 10) (n := sumN a e.body) (by omega)
  unfold lineT
  simp only [List.mem_append, List.mem_cons, List.not_mem_nil, or_false, not_or]
  exact ⟨⟨n1, by omega⟩, n2⟩
theorem sumL_line (e : En) (a : Nat) : sumL a (lineT a e) = sumN a e.body := by
  have h : lineT a e = e.body ++ 32 :: decN (sumN a e.body) := by simp [lineT]
  unfold sumL
  rw [h, lidx_word (dig_no (by omega)), Option.getD_some, List.take_left]
theorem parseJ_one {f u a : Nat} {l : List En} {e : En} {rest : List Nat} (hc : e.chk = 0) (hw : wfS e.l) (ha : a < 65521) (hl : l.length < 4096) : parseJ (f + 1) l u a (lineE a e ++ rest) = parseJ f (l ++ [newE e]) (u + (lineE a e).length) (sumN a e.body) rest := by
  have h1 : lineE a e ++ rest = lineT a e ++ 10 :: rest := by rw [lineE_T]; simp
  have h2 : (lineE a e).length = (lineT a e).length + 1 := by rw [lineE_T]; simp
  have h3 : (lineT a e ++ 10 :: rest).take (lineT a e).length = lineT a e := List.take_left
  have h4 : (lineT a e ++ 10 :: rest).drop ((lineT a e).length + 1) = rest := by rw [List.drop_length_add_append]; rfl
  have hr := readE_line hc hw ha
  have hck : (newE e).chk = 0 := hc
  rw [h1, h2, parseJ, idx_word rest (line_no hc a)]
  simp only [h3, h4, hr, sumL_line, hck]
  rw [if_neg (by omega), if_neg (by simp), if_neg (by simp), if_neg (by simp)]
  rfl
theorem parseJ_many : ∀ (us : List En) {f u a : Nat} {l : List En} {rest : List Nat}, (∀ e ∈ us, e.chk = 0) → (∀ e ∈ us, wfS e.l) → a < 65521 → l.length + us.length ≤ 4096 → parseJ (f + us.length) l u a (textJ a us ++ rest) = parseJ f (l ++ us.map newE) (u + (textJ a us).length) (lastJ a us) rest
  | [], f, u, a, l, rest, _, _, _, _ => by simp [textJ, lastJ]
  | e :: us, f, u, a, l, rest, h1, h2, h3, h4 => by
    simp only [List.length_cons] at h4
    have ih := parseJ_many us (f := f) (u := u + (lineE a e).length) (a := sumN a e.body) (l := l ++ [newE e]) (rest := rest) (fun x hx => h1 x (List.mem_cons_of_mem _ hx)) (fun x hx => h2 x (List.mem_cons_of_mem _ hx)) (sumN_lt _ h3) (by rw [List.length_append, List.length_singleton]; omega)
    rw [List.length_cons, ← Nat.add_assoc, textJ, List.append_assoc, parseJ_one (h1 _ List.mem_cons_self) (h2 _ List.mem_cons_self) h3 (by omega), ih, List.map_cons, List.append_assoc, List.length_append, Nat.add_assoc]
    rfl
theorem textJ_ge : ∀ (us : List En) (a : Nat), us.length ≤ (textJ a us).length
  | [], _ => Nat.le_refl _
  | e :: us, a => by
    have := textJ_ge us (sumN a e.body)
    rw [textJ, List.length_append, lineE_T, List.length_append]
    simp only [List.length_cons, List.length_nil]
    omega
theorem pJ_text {us : List En} (h1 : ∀ e ∈ us, e.chk = 0) (h2 : ∀ e ∈ us, wfS e.l) (h3 : us.length ≤ 4096) : pJ (textJ 0 us) = (us.map newE, (textJ 0 us).length, lastJ 0 us, 0) := by
  have hge := textJ_ge us 0
  have h := parseJ_many us (f := (textJ 0 us).length - us.length + 1) (u := 0) (a := 0) (l := []) (rest := []) h1 h2 (by decide) (by simpa using h3)
  rw [List.append_nil, List.nil_append, Nat.zero_add, show (textJ 0 us).length - us.length + 1 + us.length = (textJ 0 us).length + 1 by omega] at h
  unfold pJ
  rw [h, parseJ]
  rfl
end Mini
end Go.Proofs.YtgjlofpfbhioaaaGreatDoor
namespace Go.Proofs.YtgjlofpfbhioaaaGreatDoor
namespace Mini
open Go
variable {m : Int} {X : Ctx}
def parV (j : List Nat) : V := if (pJ j).2.2.2 = 0 then .tup [.c (.d (.sl ((pJ j).1.flatMap En.ds) (pJ j).1.length)), i64 (pJ j).2.1, i64 0, i64 0] else .tup [.c (.d .nils), i64 0, i64 ((pJ j).1.length + 1 : Nat), i64 (pJ j).2.2.2]
theorem v37 (hX : XOj m X) {N : Nat} {j : List Nat} (hN : j.length + 1200 ≤ N) (hj : j.length < 800000) (hb : ∀ c ∈ j, c < 256) (hl : (pJ j).1.length ≤ 4096) : (zenv X N).vcall 37 [strV j] = some (parV j) := by
  obtain ⟨H, h37, h5⟩ := f37 hX hN hj hb hl
  refine hX.vc (k := 37) (F := fn37) rfl (vcall_of h37 ?_)
  unfold parV
  split
  · have hdp := deep_en (c := some (pJ j).1.length) h5 rfl
    simp only [deepV, mapO, deepV1, hdp, Option.map_some, i64]
    rfl
  · rfl
end Mini
end Go.Proofs.YtgjlofpfbhioaaaGreatDoor
namespace Go.Proofs.YtgjlofpfbhioaaaGreatDoor
namespace Mini
open Go
variable {m : Int} {X : Ctx}
theorem textJ_byte : ∀ {l : List En} (a : Nat), (∀ e ∈ l, e.chk = 0) → ∀ c ∈ textJ a l, c < 256
  | [], _, _, c, hc => by cases hc
  | e :: l, a, h, c, hc => by
    rw [textJ, List.mem_append] at hc
    rcases hc with hc | hc
    · simp only [lineE, List.mem_append, List.mem_cons, List.not_mem_nil, or_false] at hc
      rcases hc with ((hc | hc) | hc) | hc
      · exact (body_ok (h e List.mem_cons_self)).1 c hc
      · omega
      · exact decF_byte 20 _ c hc
      · omega
    · exact textJ_byte _ (fun x hx => h x (List.mem_cons_of_mem _ hx)) c hc
end Mini
end Go.Proofs.YtgjlofpfbhioaaaGreatDoor
namespace Go.Proofs.YtgjlofpfbhioaaaGreatDoor
namespace Mini
open Go
variable {m : Int} {X : Ctx}
theorem idx_no {c : Nat} : ∀ {x : List Nat}, c ∉ x → idxN c x = none
  | [], _ => rfl
  | y :: x, h => by
    rw [List.mem_cons, not_or] at h
    unfold idxN
    rw [if_neg (Ne.symm h.1), idx_no h.2]
theorem f36s (hX : XOj m X) {N : Nat} {j : List Nat} {e : En} {u la : Nat} {l : List En} (hN : j.length + 100000 ≤ N) (hj : j.length < 800000) (hb : ∀ c ∈ j, c < 256) (hp : pJ j = (l, u, la, 0)) (hu : u < j.length) : vcallN X N 36 [strV j, .agg (e.ds.map .d)] = some (.tup [strV [], i64 7]) := by
  obtain ⟨N, rfl⟩ : ∃ M, N = M + 1 := ⟨N - 1, by omega⟩
  have hF : fnsX 36 = some fn36' := rfl
  have h71 := v71 hX (N := N) (j := j) (by omega) hj hb
  rw [hp] at h71
  have hj1 : ¬ (j.length : Int) > 1048576 := by omega
  have hj2 : (u : Int) < (j.length : Int) := by omega
  have g0 : ((0 : Int) != 0) = false := rfl
  generalize l.flatMap En.ds = ds at *
  simp only [strV, i64, Int.natCast_zero] at h71
  simp only [En.ds, List.map_cons, List.map_nil]
  refine vcall_of (r := .tup [strV [], i64 7]) (H := [.cells [.d (.str e.s), .d (.bool e.acc), .d (.int .u8 (e.r : Int)), .d (.int .i64 e.t), .d e.w] 0 false]) ?_ rfl
  rw [hX.fn hF]
  refine (rf_fin _ _ _ _ _ _ _ _ _ (by rfl)).trans ?_
  simp only [strV, h71, hj1, hj2, g0, freeze_nil, reachV, reachC, ite_self, List.flatMap_cons, List.flatMap_nil, evs, Nat.reduceAdd, Nat.reduceSub]
end Mini
end Go.Proofs.YtgjlofpfbhioaaaGreatDoor
namespace Go.Proofs.YtgjlofpfbhioaaaGreatDoor
namespace Mini
open Go
variable {m : Int} {X : Ctx}
theorem f36e (hX : XOj m X) {N : Nat} {j : List Nat} {e : En} {u la er : Nat} {l : List En} (hN : j.length + 100000 ≤ N) (hj : j.length < 800000) (hb : ∀ c ∈ j, c < 256) (hp : pJ j = (l, u, la, er)) (he : er ≠ 0) : vcallN X N 36 [strV j, .agg (e.ds.map .d)] = some (.tup [strV [], i64 (er : Int)]) := by
  obtain ⟨N, rfl⟩ : ∃ M, N = M + 1 := ⟨N - 1, by omega⟩
  have hF : fnsX 36 = some fn36' := rfl
  have h71 := v71 hX (N := N) (j := j) (by omega) hj hb
  rw [hp] at h71
  have hj1 : ¬ (j.length : Int) > 1048576 := by omega
  have g0 : ((er : Int) != 0) = true := by rw [bne_iff_ne]; omega
  generalize l.flatMap En.ds = ds at *
  simp only [strV, i64] at h71
  simp only [En.ds, List.map_cons, List.map_nil]
  refine vcall_of (r := .tup [strV [], i64 (er : Int)]) (H := [.cells [.d (.str e.s), .d (.bool e.acc), .d (.int .u8 (e.r : Int)), .d (.int .i64 e.t), .d e.w] 0 false]) ?_ rfl
  rw [hX.fn hF]
  refine (rf_fin _ _ _ _ _ _ _ _ _ (by rfl)).trans ?_
  simp only [strV, h71, hj1, g0, freeze_nil, reachV, reachC, ite_self, List.flatMap_cons, List.flatMap_nil, evs, Nat.reduceAdd, Nat.reduceSub]
theorem f36l (hX : XOj m X) {N : Nat} {j : List Nat} {e : En} {la : Nat} {l : List En} (hN : j.length + 100000 ≤ N) (hj : j.length < 800000) (hb : ∀ c ∈ j, c < 256) (hp : pJ j = (l, j.length, la, 0)) (hl : l.length = 4096) (hw : isSet e.w e.l) (hwl : wfS e.l) (hel : e.l.length < 1000000) (hes : e.s.length ≤ 100) (hc : e.chk = 0) : vcallN X N 36 [strV j, .agg (e.ds.map .d)] = some (.tup [strV [], i64 3]) := by
  obtain ⟨N, rfl⟩ : ∃ M, N = M + 1 := ⟨N - 1, by omega⟩
  have hF : fnsX 36 = some fn36' := rfl
  have h71 := v71 hX (N := N) (j := j) (by omega) hj hb
  rw [hp] at h71
  have h48 := hX.vc (k := 48) (F := fn48) rfl (f48 hX (N := N) (s := e.s) (acc := e.acc) (r := e.r) (t := e.t) (w := e.w) (l := e.l) (by omega) (by omega) hw hwl hel)
  have hc' : chkE e.s e.acc e.r e.t e.l = 0 := hc
  rw [hc'] at h48
  have hj1 : ¬ (j.length : Int) > 1048576 := by omega
  have hj2 : ¬ (j.length : Int) < (j.length : Int) := by omega
  have g0 : ((0 : Int) != 0) = false := rfl
  have g1 : ((l.length : Int) == 4096) = true := by rw [beq_iff_eq]; omega
  generalize l.flatMap En.ds = ds at *
  generalize l.length = n at *
  simp only [strV, i64, enC, Int.natCast_zero] at h71 h48
  simp only [En.ds, List.map_cons, List.map_nil]
  refine vcall_of (r := .tup [strV [], i64 3]) (H := [.cells [.d (.str e.s), .d (.bool e.acc), .d (.int .u8 (e.r : Int)), .d (.int .i64 e.t), .d e.w] 0 false]) ?_ rfl
  rw [hX.fn hF]
  refine (rf_fin _ _ _ _ _ _ _ _ _ (by rfl)).trans ?_
  simp only [ob?, strV, h71, h48, hj1, hj2, g0, g1, List.take, List.drop, List.map_cons, List.map_nil, freeze_nil, reachV, reachC, ite_self, List.flatMap_cons, List.flatMap_nil, ↓sp_len, evs, Nat.reduceAdd, Nat.reduceSub]
theorem f43l (hX : XOj m X) {N : Nat} {j : List Nat} {u la : Nat} {l : List En} (hN : j.length + 1200 ≤ N) (hj : j.length < 800000) (hb : ∀ c ∈ j, c < 256) (hp : pJ j = (l, u, la, 3)) (hl : l.length = 4096) : vcallN X N 43 [strV j] = some (.tup [strV [], i64 0, i64 3]) := by
  obtain ⟨N, rfl⟩ : ∃ M, N = M + 1 := ⟨N - 1, by omega⟩
  have hF : fnsX 43 = some fn43' := rfl
  have h71 := v71 hX (N := N) (j := j) (by omega) hj hb
  rw [hp] at h71
  have hc : ¬ (j.length : Int) > 1048576 := by omega
  have g1 : ((l.length : Int) == 4096) = true := by rw [beq_iff_eq]; omega
  have g3 : ((3 : Int) == 3) = true := rfl
  refine vcall_of (r := .tup [strV [], i64 0, i64 3]) (H := []) ?_ rfl
  rw [hX.fn hF]
  refine (rf_fin _ _ _ _ _ _ _ _ _ (by rfl)).trans ?_
  generalize l.flatMap En.ds = ds at *
  generalize l.length = n at *
  simp only [strV, i64, Int.cast_ofNat_Int] at h71
  simp only [strV, hc, h71, g1, g3, freeze_nil, reachV, reachC, ite_self, List.flatMap_cons, List.flatMap_nil, ↓sp_len, evs, Nat.reduceSub]
theorem f43m (hX : XOj m X) {N : Nat} {j : List Nat} {u la : Nat} {l : List En} (hN : j.length + 1200 ≤ N) (hj : j.length < 800000) (hb : ∀ c ∈ j, c < 256) (hp : pJ j = (l, u, la, 0)) (hu : u ≤ j.length) : vcallN X N 43 [strV j] = some (.tup [strV (j.take u), i64 (l.length : Nat), i64 0]) := by
  obtain ⟨N, rfl⟩ : ∃ M, N = M + 1 := ⟨N - 1, by omega⟩
  have hF : fnsX 43 = some fn43' := rfl
  have h71 := v71 hX (N := N) (j := j) (by omega) hj hb
  rw [hp] at h71
  have hc : ¬ (j.length : Int) > 1048576 := by omega
  have g3 : ((0 : Int) == 3) = false := rfl
  refine vcall_of (r := .tup [strV (j.take u), i64 (l.length : Nat), i64 0]) (H := []) ?_ rfl
  rw [hX.fn hF]
  refine (rf_fin _ _ _ _ _ _ _ _ _ (by rfl)).trans ?_
  generalize l.flatMap En.ds = ds at *
  generalize l.length = n at *
  simp only [strV, i64, Int.natCast_zero] at h71
  simp only [strV, optNat, hc, h71, g3, hu, Option.map_none, Option.map_some, List.drop_zero, Nat.zero_le, freeze_nil, reachV, reachC, ite_self, List.flatMap_cons, List.flatMap_nil, ↓sp_len, evs, Nat.reduceSub]
theorem f37b (hX : XOj m X) {N : Nat} {j : List Nat} (hN : 1 ≤ N) (hj : 1048576 < j.length) : vcallN X N 37 [strV j] = some (.tup [.c (.d .nils), i64 0, i64 0, i64 3]) := by
  obtain ⟨N, rfl⟩ : ∃ M, N = M + 1 := ⟨N - 1, by omega⟩
  have hF : fnsX 37 = some fn37' := rfl
  have hc : (j.length : Int) > 1048576 := by omega
  refine vcall_of (r := .tup [.c (.d .nils), i64 0, i64 0, i64 3]) (H := []) ?_ rfl
  rw [hX.fn hF]
  refine (rf_fin _ _ _ _ _ _ _ _ _ (by rfl)).trans ?_
  simp only [strV, hc, evs, Nat.reduceSub]
theorem f43b (hX : XOj m X) {N : Nat} {j : List Nat} (hN : 1 ≤ N) (hj : 1048576 < j.length) : vcallN X N 43 [strV j] = some (.tup [strV [], i64 0, i64 3]) := by
  obtain ⟨N, rfl⟩ : ∃ M, N = M + 1 := ⟨N - 1, by omega⟩
  have hF : fnsX 43 = some fn43' := rfl
  have hc : (j.length : Int) > 1048576 := by omega
  refine vcall_of (r := .tup [strV [], i64 0, i64 3]) (H := []) ?_ rfl
  rw [hX.fn hF]
  refine (rf_fin _ _ _ _ _ _ _ _ _ (by rfl)).trans ?_
  simp only [strV, hc, evs, Nat.reduceSub]
theorem c120z (hX : XOj m X) {N : Nat} {j : List Nat} (hN : 10 ≤ N) (hj : j.length ≤ 1100000) (h10 : 10 ∉ j) : callN X N fnLj [.c (.yld 6)] (hp71 j [] 0 0 0 true none) = some (.tup [], hp71 j [] 0 0 0 true none) := by
  obtain ⟨N, rfl⟩ : ∃ M, N = M + 1 := ⟨N - 1, by omega⟩
  have hF : fnsX 120 = some fn120' := rfl
  have hcall : callN X (N + 1) fnLj [.c (.yld 6)] (hp71 j [] 0 0 0 true none) = runFn (zenv X N) N fn120' [.c (.yld 6), .c (.ptr 4 0 0)] (hp71 j [] 0 0 0 true none) := callN_fnc (CtxLe.fns (X := XJ m) hX hF)
  obtain ⟨r, h1⟩ := r120_end hX (N := N) (l := []) (u := 0) (la := 0) hj (Nat.zero_le _) (by rw [List.drop_zero]; exact idx_no h10)
  have hit : iter (some [0, 1, 2]) 7 (exec (zenv X N) N false fn120L0) N ⟨R120 0, hp71 j [] 0 0 0 true none⟩ = some (.ret, ⟨r, hp71 j [] 0 0 0 true none⟩) := by
    obtain ⟨N', rfl⟩ : ∃ k, N = k + 1 := ⟨N - 1, by omega⟩
    simp only [iter, h1]
  rw [hcall]
  have hlen : (hp71 j [] 0 0 0 true none).length = 7 := rfl
  simp only [R120, i64, Int.natCast_zero] at hit
  generalize hp71 j [] 0 0 0 true none = HH at *
  refine (rf_fin _ _ _ _ _ _ _ _ _ (by rfl)).trans ?_
  simp only [hlen, hit, evs, Nat.reduceAdd, Nat.reduceBEq, Nat.reduceSub]
theorem f37z (hX : XOj m X) {N : Nat} {j : List Nat} (hN : 20 ≤ N) (hj : j.length ≤ 1048576) (h10 : 10 ∉ j) : vcallN X N 37 [strV j] = some (.tup [.c (.d (.sl [] 0)), i64 0, i64 0, i64 0]) := by
  obtain ⟨N, rfl⟩ : ∃ M, N = M + 2 := ⟨N - 2, by omega⟩
  have hF : fnsX 71 = some fn71'' := rfl
  have hG : fnsX 37 = some fn37' := rfl
  have hc := c120z hX (N := N) (by omega) (by omega) h10
  have h98 := f98 hX (N := N) (by omega) (j := j) (H := [.cells [.d .nils] 0 false, .cells [.d (.int .i64 0)] 0 false, .cells [.d (.int .i64 0)] 0 false, .cells [.d (.int .i64 0)] 0 false])
  simp only [strV] at h98
  have hfr : exec (zenv X N) N false (.fresh 1 (some 0) 5) ⟨regs71 j, [.cells [.d .nils] 0 false, .cells [.d (.int .i64 0)] 0 false, .cells [.d (.int .i64 0)] 0 false, .cells [.d (.int .i64 0)] 0 false, .cells [.d (.str j)] 0 false]⟩ = some (.nrm, ⟨regs71 j, [.cells [.os 5 0 0 0 5 none] 0 false, .cells [.d (.int .i64 0)] 0 false, .cells [.d (.int .i64 0)] 0 false, .cells [.d (.int .i64 0)] 0 false, .cells [.d (.str j)] 0 false, .cells [] 0 false]⟩) := rfl
  have p10 : apart (.c (.ptr 1 0 0)) (.c (.ptr 0 0 0)) = true := rfl
  have p20 : apart (.c (.ptr 2 0 0)) (.c (.ptr 0 0 0)) = true := rfl
  have p21 : apart (.c (.ptr 2 0 0)) (.c (.ptr 1 0 0)) = true := rfl
  have hrf := ex_rf (E := zenv X N) (N := N) (f := .r 12) (ps := [13, 14]) (asg := fn71A) (body := fn71B) (regs := regs71 j) (H := [.cells [.os 5 0 0 0 5 none] 0 false, .cells [.d (.int .i64 0)] 0 false, .cells [.d (.int .i64 0)] 0 false, .cells [.d (.int .i64 0)] 0 false, .cells [.d (.str j)] 0 false, .cells [] 0 false]) (x := fnLj) rfl rfl hc rfl
  have he0 : eC [] = [] := rfl
  unfold hp71 at hrf
  have h71 : callN X (N + 1) (.d (.fn 71 [] [])) [strV j] [] = some (.tup [.c (.os 5 0 0 0 5 none), i64 0, i64 0, i64 0], [.cells [.os 5 0 0 0 5 none] 0 false, .cells [.d (.int .i64 0)] 0 false, .cells [.d (.int .i64 0)] 0 false, .cells [.d (.int .i64 0)] 0 false, .cells [.d (.str j)] 0 false, .cells [] 0 false, .dead]) := by
    rw [hX.fn hF]
    refine (rf_fin _ _ _ _ _ _ _ _ _ (by rfl)).trans ?_
    simp only [strV, regs71, he0, List.length_cons, List.length_nil, Nat.reduceAdd, List.set_cons_zero, List.set_cons_succ, Int.natCast_zero] at hrf hfr
    simp only [ob?, strV, splice, rg_ap, p10, p20, p21, h98, hfr, hrf, List.take, List.drop, List.map_cons, List.map_nil, List.set_cons_zero, List.set_cons_succ, evs, Nat.reduceAdd, Nat.reduceLeDiff, Nat.reduceSub]
  have h75 := f75 hX (N := N + 1) (by omega) (id := 5) (g := 0) (n := 0) (H := [.cells [.os 5 0 0 0 5 none] 0 false, .cells [.d (.int .i64 0)] 0 false, .cells [.d (.int .i64 0)] 0 false, .cells [.d (.int .i64 0)] 0 false, .cells [.d (.str j)] 0 false, .cells [] 0 false, .dead])
  have hcc : ¬ (j.length : Int) > 1048576 := by omega
  have g0 : ((0 : Int) != 0) = false := rfl
  simp only [strV, i64] at h71
  refine vcall_of (r := .tup [.c (.os 5 0 0 0 5 (some 0)), i64 0, i64 0, i64 0]) (H := [.cells [.os 5 0 0 0 5 none] 0 false, .cells [.d (.int .i64 0)] 0 false, .cells [.d (.int .i64 0)] 0 false, .cells [.d (.int .i64 0)] 0 false, .cells [.d (.str j)] 0 false, .cells [] 0 false, .dead]) ?_ rfl
  rw [hX.fn hG]
  refine (rf_fin _ _ _ _ _ _ _ _ _ (by rfl)).trans ?_
  simp only [strV, hcc, h71, h75, g0, List.map_cons, List.map_nil, evs, Nat.reduceSub]
end Mini
end Go.Proofs.YtgjlofpfbhioaaaGreatDoor
namespace Go.Proofs.YtgjlofpfbhioaaaGreatDoor
namespace Mini
open Go
variable {m : Int} {X : Ctx}
def oneE : En := ⟨[110], false, 1, 0, .nils, []⟩
def usE (n : Nat) : List En := List.replicate n oneE
def tN (n : Nat) : List Nat := textJ 0 (usE n)
def sN (n : Nat) : Nat := lastJ 0 (usE n)
theorem us_succ (n : Nat) : usE (n + 1) = usE n ++ [oneE] := List.replicate_succ'
theorem t_succ (n : Nat) : tN (n + 1) = tN n ++ lineE (sN n) oneE := by unfold tN sN; rw [us_succ, textJ_snoc]
theorem s_succ (n : Nat) : sN (n + 1) = sumN (sN n) oneE.body := by unfold sN; rw [us_succ, lastJ_snoc]
theorem s_lt (n : Nat) : sN n < 65521 := lastJ_lt _ (by decide)
theorem us_mem {n : Nat} {e : En} (h : e ∈ usE n) : e = oneE := List.eq_of_mem_replicate h
theorem us_chk (n : Nat) : ∀ e ∈ usE n, e.chk = 0 := fun e h => by rw [us_mem h]; decide
theorem us_wf (n : Nat) : wfEs (usE n) := fun e h => by rw [us_mem h]; exact ⟨.inl ⟨rfl, rfl⟩, fun _ h => by cases h⟩
theorem us_len (n : Nat) : (usE n).length = n := List.length_replicate
theorem one_body : oneE.body.length = 19 := by decide
theorem lineT_len (a : Nat) (ha : a < 65521) : (lineT a oneE).length ≤ 25 := by
  have h := decF_short 20 (sumN a oneE.body) 4 (by have := sumN_lt oneE.body ha; omega)
  have hb := one_body
  simp only [lineT, List.length_append, List.length_cons, List.length_nil, decN]
  omega
theorem t_len : ∀ n, (tN n).length ≤ 26 * n
  | 0 => Nat.le_refl _
  | n + 1 => by
    have h1 := t_len n
    have h2 := lineT_len (sN n) (s_lt n)
    rw [t_succ, lineE_T, List.length_append, List.length_append, List.length_singleton]
    omega
theorem t_byte (n : Nat) : ∀ c ∈ tN n, c < 256 := textJ_byte 0 (us_chk n)
theorem pJ_full {us : List En} {x rest : List Nat} (h1 : ∀ e ∈ us, e.chk = 0) (h2 : ∀ e ∈ us, wfS e.l) (h3 : us.length = 4096) (hx : 10 ∉ x) : pJ (textJ 0 us ++ (x ++ 10 :: rest)) = (us.map newE, (textJ 0 us).length, lastJ 0 us, 3) := by
  have hge := textJ_ge us 0
  have hal : (textJ 0 us ++ (x ++ 10 :: rest)).length = (textJ 0 us).length + (x ++ 10 :: rest).length := List.length_append
  have h := parseJ_many us (f := (textJ 0 us ++ (x ++ 10 :: rest)).length - us.length + 1) (u := 0) (a := 0) (l := []) (rest := x ++ 10 :: rest) h1 h2 (by decide) (by simp; omega)
  rw [List.nil_append, Nat.zero_add, show (textJ 0 us ++ (x ++ 10 :: rest)).length - us.length + 1 + us.length = (textJ 0 us ++ (x ++ 10 :: rest)).length + 1 by omega] at h
  unfold pJ
  rw [h, parseJ, idx_word rest hx]
  simp only
  rw [if_pos (by rw [List.length_map]; exact h3)]
abbrev X15 (n : Nat) (b : List Nat) (x27 : V) (j : Nat) : List V := [.any, .c (.ptr 0 0 0), strV b, .c (.os 1 0 0 n 1 (some 131072)), i64 (sN j : Int), i64 (j : Int), .any, .any, .any, .any, .any, .any, .any, .any, .any, .any, .any, .any, .any, .any, .any, .any, .any, .any, .any, .any, .any, x27, .any, .any]
theorem r15 (hX : XOj m X) {N : Nat} (hN : 500 ≤ N) {h0 : Ob} {j : Nat} (hj : j < 4097) :
    ∃ s', exec (zenv X N) N false fn15L1 ⟨X15 (tN j).length oneE.body .any j, [h0, .cells (ofBytes (tN j)) 0 false]⟩ = some (.nrm, s') ∧ tidy 2 (some [1, 2, 3, 4, 5]) s' = ⟨X15 (tN (j + 1)).length oneE.body .any (j + 1), [h0, .cells (ofBytes (tN (j + 1))) 0 false]⟩ := by
  have h4 : (j : Int) < 4097 := by omega
  have h6 := wrap_succ (k := j) (by omega)
  have hbb : ∀ c ∈ oneE.body, c < 256 := by decide
  have h46 := hX.vc (k := 46) (F := fn46) rfl (f46 hX (N := N) (s := oneE.body) (a := sN j) (by have := one_body; omega) (s_lt j) hbb (by have := one_body; omega))
  rw [← s_succ] at h46
  have h50 := hX.vc (k := 50) (F := fn50) rfl (f50 hX (N := N) (n := sN (j + 1)) (by omega) (by have := s_lt (j + 1); omega))
  have hln : lineE (sN j) oneE = oneE.body ++ [32] ++ decN (sN (j + 1)) ++ [10] := by rw [s_succ]; rfl
  have htl := t_len j
  have hll := lineT_len (sN j) (s_lt j)
  have hel : (lineE (sN j) oneE).length ≤ 26 := by rw [lineE_T, List.length_append, List.length_singleton]; omega
  rw [t_succ, hln]
  rw [hln] at hel
  simp only [List.length_append, List.length_cons, List.length_nil, Nat.zero_add] at hel
  have hb19 := one_body
  generalize hs1E : sN (j + 1) = s1 at *
  generalize decN s1 = dn at *
  generalize tN j = tj at *
  generalize oneE.body = bo at *
  have a1 : bo.length + 1 ≤ 1073741824 := by omega
  have a2 : bo.length + 1 + dn.length ≤ 1073741824 := by omega
  have a3 : bo.length + 1 + dn.length + 1 ≤ 1073741824 := by omega
  have a4 : tj.length + (bo.length + 1 + dn.length + 1) ≤ 1073741824 := by omega
  have a5 : tj.length + (bo.length + 1 + dn.length + 1) ≤ 131072 := by omega
  have a6 : ¬ bo.length + 1 + dn.length + 1 = 0 := by omega
  have hol : (ofBytes tj).length = tj.length := by simp [ofBytes]
  have hsp : splice (ofBytes tj) tj.length (ofBytes (bo ++ [32] ++ dn ++ [10])) = ofBytes (tj ++ (bo ++ [32] ++ dn ++ [10])) := by
    unfold splice
    rw [List.take_of_length_le (Nat.le_of_eq hol), List.drop_of_length_le (by rw [hol]; omega), List.append_nil]
    simp [ofBytes]
  have hlen : (tj ++ (bo ++ [32] ++ dn ++ [10])).length = tj.length + (bo.length + 1 + dn.length + 1) := by simp; omega
  rw [hlen]
  simp only [strV, i64] at h46 h50
  refine ⟨⟨[.any, .c (.ptr 0 0 0), strV bo, .c (.os 1 0 0 (tj.length + (bo.length + 1 + dn.length + 1)) 1 (some 131072)), i64 (s1 : Int), i64 ((j + 1 : Nat) : Int), .any, .any, .any, .any, .any, .any, .any, .any, .any, .any, .any, .any, .any, .any, .any, .any, .any, .any, .any, .any, .any, bl true, .any, .any], [h0, .cells (ofBytes (tj ++ (bo ++ [32] ++ dn ++ [10]))) 0 false]⟩, ?_, ?_⟩
  · simp only [fn15L1, X15, strV, ob?, elems, binStr, h4, h6, h46, h50, a1, a2, a3, a4, a5, a6, hol, hsp, List.length_append, Nat.le_refl, List.set_cons_zero, List.set_cons_succ, freeze_nil, reachV, reachC, ite_self, List.flatMap_cons, List.flatMap_nil, evs, Nat.reduceAdd]
  · unfold X15
    rw [hs1E]
    exact gc_le (Nat.le_refl 2)
theorem it15 (hX : XOj m X) {N n : Nat} (hN : 5000 ≤ N) (hn : n = 4097) {h0 : Ob} : iter (some [1, 2, 3, 4, 5]) 2 (exec (zenv X N) N false fn15L1) N ⟨X15 0 oneE.body .any 0, [h0, .cells [] 0 false]⟩ = some (.exit 0, ⟨X15 (tN n).length oneE.body (bl false) n, [h0, .cells (ofBytes (tN n)) 0 false]⟩) := by
  have key := iter_to (js := some [1, 2, 3, 4, 5]) (hl := 2) (body := exec (zenv X N) N false fn15L1) (fun j => ⟨X15 (tN j).length oneE.body .any j, [h0, .cells (ofBytes (tN j)) 0 false]⟩) (e := .exit 0) (s := ⟨X15 (tN n).length oneE.body (bl false) n, [h0, .cells (ofBytes (tN n)) 0 false]⟩) (fun h => by cases h) n 0 N (fun j _ hj => r15 hX (by omega) (by omega)) ?_ (by omega)
  · exact key
  · rw [Nat.zero_add]
    have h4 : ¬ (n : Int) < 4097 := by omega
    unfold X15
    generalize ofBytes (tN n) = by' at *
    generalize (tN n).length = k at *
    generalize sN n = s at *
    generalize oneE.body = bo at *
    simp only [fn15L1, strV, h4, evs]
abbrev Y15 (t : List Nat) (k : Nat) (x28 : V) : List V := [.any, .c (.ptr 0 0 0), .any, .any, .any, .any, strV t, i64 (k : Int), .any, .any, .any, .any, .any, .any, .any, .any, .any, .any, .any, .any, .any, .any, .any, .any, .any, .any, .any, .any, x28, .any]
theorem it15b {N : Nat} {H : Heap} {t0 ln : List Nat} (h0 : t0 ≠ []) (hl : t0.getLast h0 = 10) (hno : 10 ∉ ln) (hN : ln.length < N) (hs : (t0 ++ ln).length < 1000000) (hH : H.length = 2) : iter (some [1, 6, 7]) 2 (exec (zenv X N) N false fn15L0) N ⟨Y15 (t0 ++ ln ++ [10]) (t0.length + ln.length) .any, H⟩ = some (.exit 2, ⟨Y15 (t0 ++ ln ++ [10]) t0.length (bl false), H⟩) := by
  rw [List.length_append] at hs
  have hp : 0 < t0.length := List.length_pos_iff.2 h0
  have hA : (t0 ++ ln ++ [10])[t0.length - 1]? = some 10 := by
    rw [List.append_assoc, List.getElem?_append_left (by omega), List.getElem?_eq_getElem (by omega), ← List.getLast_eq_getElem h0, hl]
  have hB : ∀ i, 0 < i → i ≤ ln.length → ∃ c, (t0 ++ ln ++ [10])[t0.length + i - 1]? = some c ∧ c ≠ 10 := fun i h1 h2 => by
    refine ⟨ln[i - 1], ?_, fun h => hno (by rw [← h]; exact List.getElem_mem _)⟩
    rw [List.append_assoc, List.getElem?_append_right (by omega), List.getElem?_append_left (by omega), show t0.length + i - 1 - t0.length = i - 1 by omega, List.getElem?_eq_getElem (by omega)]
  generalize t0 ++ ln ++ [10] = t at *
  have key := iter_to (js := some [1, 6, 7]) (hl := 2) (body := exec (zenv X N) N false fn15L0) (fun i => ⟨Y15 t (t0.length + ln.length - i) .any, H⟩) (e := .exit 2) (s := ⟨Y15 t t0.length (bl false), H⟩) (fun h => by cases h) ln.length 0 N (fun i _ hi => ?_) ?_ (by omega)
  · exact key
  · obtain ⟨c, e1, e2⟩ := hB (ln.length - i) (by omega) (by omega)
    rw [show t0.length + (ln.length - i) - 1 = t0.length + ln.length - i - 1 by omega] at e1
    have w1 : IntKind.i64.wrap (((t0.length + ln.length - i : Nat) : Int) - 1) = ((t0.length + ln.length - i - 1 : Nat) : Int) := by
      rw [← wrap_nat (k := t0.length + ln.length - i - 1) (by omega)]; congr 1; omega
    have g : ((c : Int) != 10) = true := by rw [bne_iff_ne]; omega
    refine ⟨⟨Y15 t (t0.length + ln.length - i - 1) (bl true), H⟩, ?_, ?_⟩
    · simp only [fn15L0, Y15, strV, w1, e1, g, evs]
    · rw [show t0.length + ln.length - (i + 1) = t0.length + ln.length - i - 1 by omega]
      exact gc_le (by rw [hH]; exact Nat.le_refl 2)
  · rw [Nat.zero_add, Nat.add_sub_cancel]
    have w1 : IntKind.i64.wrap ((t0.length : Int) - 1) = ((t0.length - 1 : Nat) : Int) := by
      rw [← wrap_nat (k := t0.length - 1) (by omega)]; congr 1; omega
    have g : (((10 : Nat) : Int) != 10) = false := rfl
    simp only [fn15L0, Y15, strV, w1, hA, g, evs]
end Mini
end Go.Proofs.YtgjlofpfbhioaaaGreatDoor
namespace Go.Proofs.YtgjlofpfbhioaaaGreatDoor
namespace Mini
open Go Go.Shelf Go.Proofs Go.RowKit
set_option maxRecDepth 1000000 in
theorem many_walk (a : Option Addr) (n cap : Nat) (hn : 4096 < n) (w : World) :
    Calls Tryz.prog 47 #[.slice a n cap] w fun e w' => e = .returned (.tuple #[.slice none 0 0, .int .i64 3]) ∧ Below w.heap.size w w' := by
  go_enter Tryz.func47, Tryz.ntmps47
  go_wp2
  · go_ret2
    exact ⟨rfl, Below.refl _ _⟩
def manyV : List V → Option V
  | [.c (.d (.sl _ n))] => if 4096 < n then some (.tup [.c (.d .nils), .c (.d (.int .i64 3))]) else none
  | _ => none
theorem manyV_ok {G : Nat → Option (List D)} {vs : List V} {r : V} (h : manyV vs = some r) : Enters Tryz.prog 47 ∧ ValCall Tryz.prog G 47 vs r := by
  refine ⟨⟨Tryz.f47, by kernel_rfl, by kernel_rfl, by kernel_rfl⟩, ?_⟩
  unfold manyV at h
  split at h <;> try (cases h; done)
  rename_i cs n
  split at h <;> try (cases h; done)
  rename_i hc
  simp only [Option.some.injEq] at h
  subst h
  intro I w us _ hI hrel hlen
  match us, hlen, hrel with
  | [u1], _, hrel =>
    simp only [RelVs, RelV, RelC, RelD, and_true] at hrel
    obtain ⟨a, cap, rfl, _, _⟩ := hrel
    refine (many_walk a n cap hc w).mono fun e w' hh => ?_
    obtain ⟨rfl, hb⟩ := hh
    refine out_below hI hb ?_
    rw [relV_tup]
    refine ⟨_, rfl, rfl, ?_⟩
    simp only [RelVs, and_true]
    exact ⟨by simp only [RelV, RelC, RelD], intRel⟩
end Mini
end Go.Proofs.YtgjlofpfbhioaaaGreatDoor
