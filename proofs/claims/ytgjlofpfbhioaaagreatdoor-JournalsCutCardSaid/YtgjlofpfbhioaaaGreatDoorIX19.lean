/-
  JournalsCut: texts of the proof, part 20.
-/
import Derived.Test.YtgjlofpfbhioaaaGreatDoorIX18
namespace Go.Proofs.YtgjlofpfbhioaaaGreatDoor
namespace Mini
open Go
variable {m : Int} {X : Ctx}
theorem r120 (hX : XOj m X) {N : Nat} {j : List Nat} {u i : Nat} {HH H2 : Heap} {ok : Bool} (hj : j.length ≤ 1100000) (hu : u + i ≤ j.length) (hi : idxN 10 (j.drop u) = some i) (h4 : HH[4]? = some (.cells [.d (.str j)] 0 false)) (hy : callN X N (.yld 6) [strV ((j.drop u).take i), i64 ((u + i + 1 : Nat) : Int)] HH = some (bl ok, H2)) :
    ∃ r, exec (zenv X N) N false fn120L0 ⟨R120 u, HH⟩ = some (if ok then .nrm else .ret, ⟨r, H2⟩) ∧ (ok = true → keepOnly [0, 1, 2] 0 r = R120 (u + i + 1)) := by
  have hpc := p121 hX (N := N) (s := j.drop u)
  rw [hi] at hpc
  have ho : oInt (some i) = (i : Int) := rfl
  rw [ho] at hpc
  have k1 : ¬ (i : Int) < 0 := by omega
  have k2 : u ≤ j.length := by omega
  have k3 : u ≤ u + i := by omega
  have htk : j.take j.length = j := List.take_length
  have hsl : (j.take (u + i)).drop u = (j.drop u).take i := by rw [List.drop_take, Nat.add_sub_cancel_left]
  have w1 : IntKind.i64.wrap ((u : Int) + (i : Int)) = ((u + i : Nat) : Int) := by rw [← wrap_nat (k := u + i) (by omega)]; simp
  have w2 := wrap_succ (k := u + i) (by omega)
  have w3 := wrap_succ (k := i) (by omega)
  have w4 : IntKind.i64.wrap ((u : Int) + ((i + 1 : Nat) : Int)) = ((u + i + 1 : Nat) : Int) := by rw [← wrap_nat (k := u + i + 1) (by omega)]; congr 1
  generalize (j.drop u).take i = a at *
  simp only [strV, i64, bl] at hy
  cases ok
  · refine ⟨[.c (.yld 6), .c (.ptr 4 0 0), i64 (u : Int), i64 (i : Int), bl true], ?_, fun h => by cases h⟩
    simp only [fn120L0, R120, optNat, hpc, h4, htk, hsl, hy, k1, k2, k3, hu, w1, w2, Option.map_none, Option.map_some, Nat.le_refl, and_self, Bool.not_false, List.drop_zero, List.take, List.map_cons, List.map_nil, freeze_nil, reachV, reachC, ite_self, List.flatMap_cons, List.flatMap_nil, evs]
  · refine ⟨[.c (.yld 6), .c (.ptr 4 0 0), i64 ((u + i + 1 : Nat) : Int), i64 (i : Int), bl false], ?_, fun _ => rfl⟩
    simp only [fn120L0, R120, optNat, hpc, h4, htk, hsl, hy, k1, k2, k3, hu, w1, w2, w3, w4, Option.map_none, Option.map_some, Nat.le_refl, and_self, Bool.not_true, List.drop_zero, List.take, List.map_cons, List.map_nil, freeze_nil, reachV, reachC, ite_self, List.flatMap_cons, List.flatMap_nil, evs]
theorem eC_d (l : List En) : (eC l).all C.isD = true := by
  rw [List.all_eq_true]
  intro c hc
  obtain ⟨d, _, rfl⟩ := List.mem_map.1 hc
  rfl
theorem hp71_tidy {j : List Nat} {l : List En} {u la w : Nat} {t : Heap} {r : List V} (hr : keepOnly [0, 1, 2] 0 r = R120 w) : tidy 7 (some [0, 1, 2]) ⟨r, hp71 j l u la 0 true none ++ t⟩ = ⟨R120 w, hp71 j l u la 0 true none⟩ := by
  show gc 7 ⟨keepOnly [0, 1, 2] 0 r, _⟩ = _
  rw [hr]
  have hu := undersC_d 7 _ (eC_d l)
  refine gc_yes rfl ?_
  simp only [hp71, List.cons_append, List.nil_append, List.take_succ_cons, List.take_zero, List.all_cons, List.all_nil, Ob.under, hu, Bool.and_true, Bool.and_self]
  rfl
theorem idx_le {c : Nat} : ∀ {s : List Nat} {k : Nat}, idxN c s = some k → k < s.length
  | [], _, h => by cases h
  | x :: s, k, h => by
    unfold idxN at h
    split at h
    · cases h; simp
    · split at h
      · rename_i k' h2
        cases h
        have := idx_le h2
        simp only [List.length_cons]; omega
      · cases h
theorem it120 (hX : XOj m X) {N : Nat} {j : List Nat} (hN : j.length + 1000 ≤ N) (hj : j.length < 800000) (hb : ∀ c ∈ j, c < 256) : ∀ (f fuel : Nat) (l : List En) (u la : Nat), (j.drop u).length < f → f ≤ fuel → u ≤ j.length → l.length ≤ 4096 → la < 65521 →
    ∃ r H, iter (some [0, 1, 2]) 7 (exec (zenv X N) N false fn120L0) fuel ⟨R120 u, hp71 j l u la 0 true none⟩ = some (.ret, ⟨r, H⟩) ∧ ∃ t, H = (if (parseJ f l u la (j.drop u)).2.2.2 = 0 then hp71 j (parseJ f l u la (j.drop u)).1 (parseJ f l u la (j.drop u)).2.1 (parseJ f l u la (j.drop u)).2.2.1 0 true none else hp71 j (parseJ f l u la (j.drop u)).1 (parseJ f l u la (j.drop u)).2.1 (parseJ f l u la (j.drop u)).2.2.1 (parseJ f l u la (j.drop u)).2.2.2 false (some .ret)) ++ t := by
  intro f
  induction f with
  | zero => intro fuel l u la h; exact absurd h (Nat.not_lt_zero _)
  | succ f ih =>
    intro fuel l u la hf hfu hu hl hla
    obtain ⟨fuel, rfl⟩ : ∃ k, fuel = k + 1 := ⟨fuel - 1, by omega⟩
    have out : ∀ {s' : St} {st : St}, exec (zenv X N) N false fn120L0 st = some (.ret, s') → iter (some [0, 1, 2]) 7 (exec (zenv X N) N false fn120L0) (fuel + 1) st = some (.ret, s') := by
      intro s' st h
      simp only [iter, h]
    unfold parseJ
    cases hi : idxN 10 (j.drop u) with
    | none =>
      obtain ⟨r, h1⟩ := r120_end hX (N := N) (l := l) (la := la) (by omega) hu hi
      exact ⟨r, _, out h1, [], by simp⟩
    | some i =>
      have hil := idx_le hi
      rw [List.length_drop] at hil hf
      have h4 : (hp71 j l u la 0 true none)[4]? = some (.cells [.d (.str j)] 0 false) := rfl
      have hal : ((j.drop u).take i).length ≤ j.length := by rw [List.length_take, List.length_drop]; omega
      have hab : ∀ c ∈ (j.drop u).take i, c < 256 := fun c hc => hb c (List.mem_of_mem_drop (List.mem_of_mem_take hc))
      obtain ⟨e1, e2, e3, e4, e5⟩ := readE_ok (s := (j.drop u).take i)
      have bad : ∀ {H2 : Heap} (c : Nat), c ≠ 0 → callN X N (.yld 6) [strV ((j.drop u).take i), i64 ((u + i + 1 : Nat) : Int)] (hp71 j l u la 0 true none) = some (bl false, hp71 j l u la c false (some .ret) ++ H2) → ∃ r H, iter (some [0, 1, 2]) 7 (exec (zenv X N) N false fn120L0) (fuel + 1) ⟨R120 u, hp71 j l u la 0 true none⟩ = some (.ret, ⟨r, H⟩) ∧ ∃ t, H = (if c = 0 then hp71 j l u la 0 true none else hp71 j l u la c false (some .ret)) ++ t := by
        intro H2 c hc hy
        obtain ⟨r, h1, _⟩ := r120 hX (N := N) (by omega) (by omega) hi h4 hy
        exact ⟨r, _, out h1, H2, by rw [if_neg hc]⟩
      simp only
      by_cases c1 : l.length = 4096
      · rw [if_pos c1]
        obtain ⟨t, hy⟩ := yl71l hX (N := N) (j := j) (a := (j.drop u).take i) (l := l) (used := u) (last := la) (bh := u + i + 1) (by omega) c1
        exact bad 3 (by omega) hy
      rw [if_neg c1]
      by_cases c2 : (readE ((j.drop u).take i)).2.2 = false
      · rw [if_pos c2]
        obtain ⟨t, hy⟩ := yl71f hX (N := N) (j := j) (a := (j.drop u).take i) (l := l) (used := u) (last := la) (bh := u + i + 1) (e := (readE ((j.drop u).take i)).1) (st := (readE ((j.drop u).take i)).2.1) (by omega) (by omega) (by omega) (by rw [← c2])
        exact bad 6 (by omega) hy
      rw [if_neg c2]
      have hrt : (readE ((j.drop u).take i)).2.2 = true := by simpa using c2
      have hr : readE ((j.drop u).take i) = ((readE ((j.drop u).take i)).1, (readE ((j.drop u).take i)).2.1, true) := by rw [← hrt]
      obtain ⟨k, hk, hka⟩ := e5 hrt
      by_cases c3 : (readE ((j.drop u).take i)).1.chk ≠ 0
      · rw [if_pos c3]
        obtain ⟨t, hy⟩ := yl71c hX (N := N) (j := j) (a := (j.drop u).take i) (l := l) (used := u) (last := la) (bh := u + i + 1) (by omega) (by omega) (by omega) hr e1 e2 (by omega) e3 rfl c3
        exact bad _ c3 hy
      rw [if_neg c3]
      have c3' : (readE ((j.drop u).take i)).1.chk = 0 := Decidable.not_not.1 c3
      have hsm : sumL la ((j.drop u).take i) = sumN la (((j.drop u).take i).take k) := by unfold sumL; rw [hk]; rfl
      rw [hsm]
      by_cases c4 : ((sumN la (((j.drop u).take i).take k) : Nat) : Int) ≠ (readE ((j.drop u).take i)).2.1
      · rw [if_pos c4]
        obtain ⟨t, hy⟩ := yl71s hX (N := N) (j := j) (a := (j.drop u).take i) (l := l) (used := u) (last := la) (bh := u + i + 1) (by omega) (by omega) (by omega) hr e1 e2 (by omega) e3 hab hla c3' hk hka c4
        exact bad 24 (by omega) hy
      rw [if_neg c4]
      obtain ⟨t, hy⟩ := yl71 hX (N := N) (j := j) (a := (j.drop u).take i) (l := l) (used := u) (last := la) (k := k) (bh := u + i + 1) (by omega) (by omega) hab (by omega) hla hr e1 e2 (by omega) e3 c3' hk hka (Decidable.not_not.1 c4)
      obtain ⟨r, h1, h2⟩ := r120 hX (N := N) (by omega) (by omega) hi h4 hy
      have hdd : (j.drop u).drop (i + 1) = j.drop (u + i + 1) := by rw [List.drop_drop]; congr 1
      rw [hdd]
      obtain ⟨r2, H, h3, h5⟩ := ih fuel (l ++ [newE (readE ((j.drop u).take i)).1]) (u + i + 1) (sumN la (((j.drop u).take i).take k)) (by rw [List.length_drop]; omega) (by omega) (by omega) (by rw [List.length_append, List.length_singleton]; omega) (sumN_lt _ hla)
      refine ⟨r2, H, ?_, h5⟩
      rw [iter_step h1, hp71_tidy (h2 rfl)]
      exact h3
end Mini
end Go.Proofs.YtgjlofpfbhioaaaGreatDoor
namespace Go.Proofs.YtgjlofpfbhioaaaGreatDoor
namespace Mini
open Go
variable {m : Int} {X : Ctx}
theorem f98 (hX : XOj m X) {N : Nat} (hN : 1 ≤ N) {j : List Nat} {H : Heap} : callN X N (.d (.fn 98 [] [])) [strV j] H = some (.c (.fn 120 [] [.ptr H.length 0 0]), H ++ [.cells [.d (.str j)] 0 false]) := by
  obtain ⟨N, rfl⟩ : ∃ M, N = M + 1 := ⟨N - 1, by omega⟩
  rw [hX.fn (F := fn98) rfl]
  refine (rf_fin _ _ _ _ _ _ _ _ _ (by rfl)).trans ?_
  simp only [strV, V.one, evs, Nat.reduceSub]
theorem c120 (hX : XOj m X) {N : Nat} {j : List Nat} (hN : j.length + 1010 ≤ N) (hj : j.length < 800000) (hb : ∀ c ∈ j, c < 256) : ∃ H, callN X N fnLj [.c (.yld 6)] (hp71 j [] 0 0 0 true none) = some (.tup [], H) ∧ ∃ t, H = (if (parseJ (j.length + 1) [] 0 0 j).2.2.2 = 0 then hp71 j (parseJ (j.length + 1) [] 0 0 j).1 (parseJ (j.length + 1) [] 0 0 j).2.1 (parseJ (j.length + 1) [] 0 0 j).2.2.1 0 true none else hp71 j (parseJ (j.length + 1) [] 0 0 j).1 (parseJ (j.length + 1) [] 0 0 j).2.1 (parseJ (j.length + 1) [] 0 0 j).2.2.1 (parseJ (j.length + 1) [] 0 0 j).2.2.2 false (some .ret)) ++ t := by
  obtain ⟨N, rfl⟩ : ∃ M, N = M + 1 := ⟨N - 1, by omega⟩
  have hF : fnsX 120 = some fn120' := rfl
  have hcall : callN X (N + 1) fnLj [.c (.yld 6)] (hp71 j [] 0 0 0 true none) = runFn (zenv X N) N fn120' [.c (.yld 6), .c (.ptr 4 0 0)] (hp71 j [] 0 0 0 true none) := callN_fnc (CtxLe.fns (X := XJ m) hX hF)
  obtain ⟨r, H, hit, ht⟩ := it120 hX (N := N) (j := j) (by omega) hj hb (j.length + 1) N [] 0 0 (by rw [List.drop_zero]; omega) (by omega) (Nat.zero_le _) (by simp) (by decide)
  rw [List.drop_zero] at ht
  refine ⟨H, ?_, ht⟩
  rw [hcall]
  have hlen : (hp71 j [] 0 0 0 true none).length = 7 := rfl
  simp only [R120, i64, Int.natCast_zero] at hit
  generalize hp71 j [] 0 0 0 true none = HH at *
  refine (rf_fin _ _ _ _ _ _ _ _ _ (by rfl)).trans ?_
  simp only [hlen, hit, evs, Nat.reduceAdd, Nat.reduceBEq, Nat.reduceSub]
theorem f71 (hX : XOj m X) {N : Nat} {j : List Nat} (hN : j.length + 1100 ≤ N) (hj : j.length < 800000) (hb : ∀ c ∈ j, c < 256) : ∃ H, callN X N (.d (.fn 71 [] [])) [strV j] [] = some (.tup [.c (.os 5 (parseJ (j.length + 1) [] 0 0 j).1.length 0 (parseJ (j.length + 1) [] 0 0 j).1.length 5 none), i64 (parseJ (j.length + 1) [] 0 0 j).2.1, i64 (parseJ (j.length + 1) [] 0 0 j).2.2.1, i64 (parseJ (j.length + 1) [] 0 0 j).2.2.2], H) ∧ H[5]? = some (.cells (eC (parseJ (j.length + 1) [] 0 0 j).1) (parseJ (j.length + 1) [] 0 0 j).1.length false) := by
  obtain ⟨N, rfl⟩ : ∃ M, N = M + 1 := ⟨N - 1, by omega⟩
  have hF : fnsX 71 = some fn71'' := rfl
  obtain ⟨H, hc, t, rfl⟩ := c120 hX (N := N) (j := j) (by omega) hj hb
  have h98 := f98 hX (N := N) (by omega) (j := j) (H := [.cells [.d .nils] 0 false, .cells [.d (.int .i64 0)] 0 false, .cells [.d (.int .i64 0)] 0 false, .cells [.d (.int .i64 0)] 0 false])
  simp only [strV] at h98
  have hfr : exec (zenv X N) N false (.fresh 1 (some 0) 5) ⟨regs71 j, [.cells [.d .nils] 0 false, .cells [.d (.int .i64 0)] 0 false, .cells [.d (.int .i64 0)] 0 false, .cells [.d (.int .i64 0)] 0 false, .cells [.d (.str j)] 0 false]⟩ = some (.nrm, ⟨regs71 j, [.cells [.os 5 0 0 0 5 none] 0 false, .cells [.d (.int .i64 0)] 0 false, .cells [.d (.int .i64 0)] 0 false, .cells [.d (.int .i64 0)] 0 false, .cells [.d (.str j)] 0 false, .cells [] 0 false]⟩) := rfl
  have p10 : apart (.c (.ptr 1 0 0)) (.c (.ptr 0 0 0)) = true := rfl
  have p20 : apart (.c (.ptr 2 0 0)) (.c (.ptr 0 0 0)) = true := rfl
  have p21 : apart (.c (.ptr 2 0 0)) (.c (.ptr 1 0 0)) = true := rfl
  generalize parseJ (j.length + 1) [] 0 0 j = P at *
  obtain ⟨l, u, la, er⟩ := P
  simp only at hc ⊢
  rw [hX.fn hF]
  by_cases h0 : er = 0
  · rw [if_pos h0] at hc
    subst h0
    have hrf := ex_rf (E := zenv X N) (N := N) (f := .r 12) (ps := [13, 14]) (asg := fn71A) (body := fn71B) (regs := regs71 j) (H := [.cells [.os 5 0 0 0 5 none] 0 false, .cells [.d (.int .i64 0)] 0 false, .cells [.d (.int .i64 0)] 0 false, .cells [.d (.int .i64 0)] 0 false, .cells [.d (.str j)] 0 false, .cells [] 0 false]) (x := fnLj) rfl rfl hc rfl
    unfold hp71 at hrf
    generalize eC l = ec at *
    generalize l.length = n at *
    refine ⟨[.cells [.os 5 n 0 n 5 none] 0 false, .cells [.d (.int .i64 (u : Int))] 0 false, .cells [.d (.int .i64 (la : Int))] 0 false, .cells [.d (.int .i64 0)] 0 false, .cells [.d (.str j)] 0 false, .cells ec n false, .dead] ++ t, ?_, rfl⟩
    refine (rf_fin _ _ _ _ _ _ _ _ _ (by rfl)).trans ?_
    simp only [strV, regs71, List.length_cons, List.length_nil, Nat.reduceAdd, List.cons_append, List.nil_append, List.set_cons_zero, List.set_cons_succ, Int.natCast_zero] at hrf hfr
    simp only [ob?, strV, splice, rg_ap, p10, p20, p21, h98, hfr, hrf, Int.natCast_zero, List.take, List.drop, List.map_cons, List.map_nil, List.set_cons_zero, List.set_cons_succ, evs, Nat.reduceAdd, Nat.reduceLeDiff, Nat.reduceSub]
  · rw [if_neg h0] at hc
    have hrf := ex_rf_out (E := zenv X N) (N := N) (f := .r 12) (ps := [13, 14]) (asg := fn71A) (body := fn71B) (regs := regs71 j) (H := [.cells [.os 5 0 0 0 5 none] 0 false, .cells [.d (.int .i64 0)] 0 false, .cells [.d (.int .i64 0)] 0 false, .cells [.d (.int .i64 0)] 0 false, .cells [.d (.str j)] 0 false, .cells [] 0 false]) (x := fnLj) (e := .ret) rfl rfl hc rfl
    unfold hp71 at hrf
    generalize eC l = ec at *
    generalize l.length = n at *
    refine ⟨[.cells [.os 5 n 0 n 5 none] 0 false, .cells [.d (.int .i64 (u : Int))] 0 false, .cells [.d (.int .i64 (la : Int))] 0 false, .cells [.d (.int .i64 (er : Int))] 0 false, .cells [.d (.str j)] 0 false, .cells ec n false, .dead] ++ t, ?_, rfl⟩
    refine (rf_fin _ _ _ _ _ _ _ _ _ (by rfl)).trans ?_
    simp only [strV, regs71, List.length_cons, List.length_nil, Nat.reduceAdd, List.cons_append, List.nil_append, List.set_cons_zero, List.set_cons_succ] at hrf hfr
    simp only [ob?, strV, h98, hfr, hrf, List.take, List.drop, List.map_cons, List.map_nil, evs, Nat.reduceAdd, Nat.reduceSub]
end Mini
end Go.Proofs.YtgjlofpfbhioaaaGreatDoor
namespace Go.Proofs.YtgjlofpfbhioaaaGreatDoor
namespace Mini
open Go
variable {m : Int} {X : Ctx}
abbrev pJ (j : List Nat) : List En × Nat × Nat × Nat := parseJ (j.length + 1) [] 0 0 j
theorem f75 (hX : XOj m X) {N : Nat} (hN : 1 ≤ N) {id g n : Nat} {H : Heap} : callN X N (.d (.fn 75 [] [])) [.c (.os id g 0 n 5 none)] H = some (.c (.os id g 0 n 5 (some n)), H) := by
  obtain ⟨N, rfl⟩ : ∃ M, N = M + 1 := ⟨N - 1, by omega⟩
  rw [hX.fn (F := fn75) rfl]
  refine (rf_fin _ _ _ _ _ _ _ _ _ (by rfl)).trans ?_
  simp only [optNat, Option.map_none, Option.map_some, Option.getD_none, Nat.zero_le, Nat.le_refl, Nat.sub_zero, ↓sp_len, evs, Nat.reduceMul, Nat.reduceSub]
theorem f37 (hX : XOj m X) {N : Nat} {j : List Nat} (hN : j.length + 1200 ≤ N) (hj : j.length < 800000) (hb : ∀ c ∈ j, c < 256) (hl : (pJ j).1.length ≤ 4096) : ∃ H, callN X N (.d (.fn 37 [] [])) [strV j] [] = some (if (pJ j).2.2.2 = 0 then .tup [.c (.os 5 (pJ j).1.length 0 (pJ j).1.length 5 (some (pJ j).1.length)), i64 (pJ j).2.1, i64 0, i64 0] else .tup [.c (.d .nils), i64 0, i64 ((pJ j).1.length + 1 : Nat), i64 (pJ j).2.2.2], H) ∧ H[5]? = some (.cells (eC (pJ j).1) (pJ j).1.length false) := by
  obtain ⟨N, rfl⟩ : ∃ M, N = M + 1 := ⟨N - 1, by omega⟩
  have hF : fnsX 37 = some fn37' := rfl
  obtain ⟨H, h71, h5⟩ := f71 hX (N := N) (j := j) (by omega) hj hb
  have h75 := f75 hX (N := N) (by omega) (id := 5) (g := (pJ j).1.length) (n := (pJ j).1.length) (H := H)
  have hc : ¬ (j.length : Int) > 1048576 := by omega
  have hw := wrap_succ (k := (pJ j).1.length) (by omega)
  refine ⟨H, ?_, h5⟩
  rw [hX.fn hF]
  refine (rf_fin _ _ _ _ _ _ _ _ _ (by rfl)).trans ?_
  unfold pJ at *
  generalize (parseJ (j.length + 1) [] 0 0 j).1.length = n at *
  generalize (parseJ (j.length + 1) [] 0 0 j).2.1 = u at *
  generalize (parseJ (j.length + 1) [] 0 0 j).2.2.1 = la at *
  generalize (parseJ (j.length + 1) [] 0 0 j).2.2.2 = er at *
  simp only [strV, i64] at h71
  by_cases h0 : er = 0
  · subst h0
    rw [if_pos rfl]
    have g0 : ((0 : Int) != 0) = false := rfl
    simp only [strV, hc, h71, h75, g0, Int.natCast_zero, List.map_cons, List.map_nil, evs, Nat.reduceSub]
  · rw [if_neg h0]
    have g0 : ((er : Int) != 0) = true := by rw [bne_iff_ne]; omega
    simp only [strV, hc, h71, hw, g0, List.map_cons, List.map_nil, ↓sp_len, evs, Nat.reduceSub]
end Mini
end Go.Proofs.YtgjlofpfbhioaaaGreatDoor
namespace Go.Proofs.YtgjlofpfbhioaaaGreatDoor
namespace Mini
open Go
variable {m : Int} {X : Ctx}
theorem deep_en {H : Heap} {id g n : Nat} {l : List En} {f : Bool} {c : Option Nat} (hH : H[id]? = some (.cells (eC l) g f)) (hn : l.length = n) : deepC H deepMax (.os id g 0 n 5 c) = some (.sl (l.flatMap En.ds) n) := by
  have hal := eC_len l
  have p2 : ((eC l).drop 0).take (n * 5) = (l.flatMap En.ds).map .d := by
    rw [List.drop_zero, List.take_of_length_le (by omega)]; rfl
  have p1 : 0 + n * 5 ≤ (eC l).length := by omega
  simp only [deepMax, deepC, ob_eq, hH, if_true, if_pos p1, p2, mapO_d, Option.map_some]
theorem v71 (hX : XOj m X) {N : Nat} {j : List Nat} (hN : j.length + 1100 ≤ N) (hj : j.length < 800000) (hb : ∀ c ∈ j, c < 256) : (zenv X N).vcall 71 [strV j] = some (.tup [.c (.d (.sl ((pJ j).1.flatMap En.ds) (pJ j).1.length)), i64 (pJ j).2.1, i64 (pJ j).2.2.1, i64 (pJ j).2.2.2]) := by
  obtain ⟨H, h71, h5⟩ := f71 hX hN hj hb
  have hdp := deep_en (c := none) h5 rfl
  refine hX.vc (k := 71) (F := fn71) rfl (vcall_of h71 ?_)
  simp only [deepV, mapO, deepV1, hdp, Option.map_some, i64]
  rfl
theorem f36 (hX : XOj m X) {N : Nat} {j : List Nat} {e : En} {la : Nat} {l : List En} (hN : j.length + 100000 ≤ N) (hj : j.length < 800000) (hb : ∀ c ∈ j, c < 256) (hp : pJ j = (l, j.length, la, 0)) (hl : l.length < 4096) (hla : la < 65521) (hw : isSet e.w e.l) (hwl : wfS e.l) (hel : e.l.length < 1000000) (hes : e.s.length ≤ 100) (hc : e.chk = 0) (hlen : (j ++ lineE la e).length ≤ 1048576) : vcallN X N 36 [strV j, .agg (e.ds.map .d)] = some (.tup [strV (j ++ lineE la e), i64 0]) := by
  obtain ⟨N, rfl⟩ : ∃ M, N = M + 1 := ⟨N - 1, by omega⟩
  have hF : fnsX 36 = some fn36' := rfl
  have h71 := v71 hX (N := N) (j := j) (by omega) hj hb
  rw [hp] at h71
  obtain ⟨b1, b2⟩ := body_ok hc
  have h48 := hX.vc (k := 48) (F := fn48) rfl (f48 hX (N := N) (s := e.s) (acc := e.acc) (r := e.r) (t := e.t) (w := e.w) (l := e.l) (by omega) (by omega) hw hwl hel)
  have hc' : chkE e.s e.acc e.r e.t e.l = 0 := hc
  rw [hc'] at h48
  have h72 := hX.vc (k := 72) (F := fn72) rfl (f72 hX (N := N) (by omega) hw hwl hc')
  have hbd : bodyE e.s e.acc e.r e.t e.l = e.body := rfl
  rw [hbd] at h72
  have h74 := hX.vc (k := 74) (F := fn74) rfl (f74 hX (N := N) (s := e.body) (a := la) (by omega) hla b1 (by omega))
  have hsl := sumN_lt e.body hla
  have h73 : (zenv X N).prim 73 [.c (.d (.int .i64 ((sumN la e.body : Nat) : Int)))] = some (.c (.d (.str (decN (sumN la e.body))))) := by
    rw [zenv_pr]
    refine hX.prim ?_
    show (if -9223372036854775808 ≤ ((sumN la e.body : Nat) : Int) ∧ ((sumN la e.body : Nat) : Int) ≤ 9223372036854775807 then some (Str (itoaN ((sumN la e.body : Nat) : Int))) else none) = _
    rw [if_pos ⟨by omega, by omega⟩, itoaN, if_neg (by omega), Int.toNat_natCast]
  have hdl := (decF_len 20 (sumN la e.body)).1
  have hj1 : ¬ (j.length : Int) > 1048576 := by omega
  have hj2 : ¬ (j.length : Int) < (j.length : Int) := by omega
  have g0 : ((0 : Int) != 0) = false := rfl
  have g1 : ((l.length : Int) == 4096) = false := by rw [beq_eq_false_iff_ne]; omega
  have hout : j ++ lineE la e = j ++ e.body ++ [32] ++ decN (sumN la e.body) ++ [10] := by simp only [lineE, List.append_assoc]
  rw [hout] at hlen ⊢
  have k1 : j.length + e.body.length ≤ 1073741824 := by omega
  have k2 : j.length + e.body.length + 1 ≤ 1073741824 := by omega
  have k3 : j.length + e.body.length + 1 + (decN (sumN la e.body)).length ≤ 1073741824 := by unfold decN; omega
  have k4 : j.length + e.body.length + 1 + (decN (sumN la e.body)).length + 1 ≤ 1073741824 := by unfold decN; omega
  have k5 : ¬ ((j.length + e.body.length + 1 + (decN (sumN la e.body)).length + 1 : Nat) : Int) > 1048576 := by
    simp only [List.length_append, List.length_cons, List.length_nil] at hlen
    omega
  generalize decN (sumN la e.body) = dn at *
  generalize sumN la e.body = sm at *
  generalize e.body = bo at *
  generalize l.flatMap En.ds = ds at *
  simp only [strV, i64, enC, Int.natCast_zero] at h71 h48 h72 h74
  simp only [En.ds, List.map_cons, List.map_nil]
  refine vcall_of (r := .tup [strV (j ++ bo ++ [32] ++ dn ++ [10]), i64 0]) (H := [.cells [.d (.str e.s), .d (.bool e.acc), .d (.int .u8 (e.r : Int)), .d (.int .i64 e.t), .d e.w] 0 false]) ?_ rfl
  rw [hX.fn hF]
  refine (rf_fin _ _ _ _ _ _ _ _ _ (by rfl)).trans ?_
  simp only [ob?, strV, binStr, h71, h48, h72, h73, h74, hj1, hj2, g0, g1, k1, k2, k3, k4, k5, List.length_append, List.take, List.drop, List.map_cons, List.map_nil, freeze_nil, reachV, reachC, ite_self, List.flatMap_cons, List.flatMap_nil, ↓sp_len, evs, Nat.reduceAdd, Nat.reduceSub]
end Mini
end Go.Proofs.YtgjlofpfbhioaaaGreatDoor
namespace Go.Proofs.YtgjlofpfbhioaaaGreatDoor
namespace Mini
open Go
theorem decF_short : ∀ f n k, n < 10 ^ (k + 1) → (decF f n).length ≤ k + 1
  | 0, n, k, _ => by simp [decF]
  | f + 1, n, k, h => by
    unfold decF
    split
    · simp
    · rename_i h10
      cases k with
      | zero => exact absurd (by simpa using h) h10
      | succ k =>
        have := decF_short f (n / 10) k (by rw [Nat.pow_succ] at h; omega)
        simp only [List.length_append, List.length_cons, List.length_nil]
        omega
theorem numS_dec {n : Nat} {k : Int} (hk : ((decN n).length : Int) ≤ k) (hn : n < 4294967296) : numS (decN n) k = (n : Int) := by
  have hd := decN_dec hn
  have hv := decN_num hn
  have hg := decF_dig 20 n
  have hall : (decN n).all isDig = true := List.all_eq_true.2 hg
  unfold decB at hd
  simp only [Bool.or_eq_true, Bool.and_eq_true, decide_eq_true_eq] at hd
  unfold numS
  rw [if_neg ?_, if_pos hall, hv]
  rintro (h | h | h)
  · rcases hd with h2 | h2
    · rw [h] at h2; cases h2
    · exact h2.1.1 h
  · omega
  · rcases hd with h2 | h2
    · rw [h2] at h; simp at h
    · exact h2.1.2 h.2
def lineT (a : Nat) (e : En) : List Nat := e.body ++ [32] ++ decN (sumN a e.body)
theorem lineE_T (a : Nat) (e : En) : lineE a e = lineT a e ++ [10] := rfl
theorem dig_no {c n : Nat} (h : c < 48) : c ∉ decN n := fun hm => by
  have := isDig_rng (decF_dig 20 n c hm)
  omega
theorem name_no {s : List Nat} {c : Nat} (h : nameB s = true) (hc : c < 45) : c ∉ s := fun hm => by
  have := okB_rng ((nameB_ok h).2.2 c hm)
  omega
theorem set_no {l : List Oid} {c : Nat} (hc : c < 44) : c ∉ setT l := fun hm => by
  have := setT_char l c hm
  omega
theorem reas_no {r c : Nat} (hc : c < 97) : c ∉ reasT r := by
  unfold reasT
  split
  · intro h; simp only [List.mem_cons, List.not_mem_nil, or_false] at h; omega
  split
  · intro h; simp only [List.mem_cons, List.not_mem_nil, or_false] at h; omega
  split
  · intro h; simp only [List.mem_cons, List.not_mem_nil, or_false] at h; omega
  · exact List.not_mem_nil
theorem rv_reas {r : Nat} (h1 : 1 ≤ r) (h3 : r ≤ 3) : rvJ (reasT r) 3 = r := by
  have : r = 1 ∨ r = 2 ∨ r = 3 := by omega
  rcases this with rfl | rfl | rfl <;> decide
end Mini
end Go.Proofs.YtgjlofpfbhioaaaGreatDoor
namespace Go.Proofs.YtgjlofpfbhioaaaGreatDoor
namespace Mini
open Go
theorem split_acc {s x d : List Nat} (h1 : 32 ∉ s) (h2 : 32 ∉ x) (h3 : 32 ∉ d) : splitN 32 (s ++ wAcc ++ x ++ [32] ++ d) = [s, accW, x, d] := by
  have h : s ++ wAcc ++ x ++ [32] ++ d = s ++ 32 :: (accW ++ 32 :: (x ++ 32 :: d)) := by simp [wAcc, accW]
  rw [h, splitN_cons _ h1, splitN_cons _ (show 32 ∉ accW by decide), splitN_cons _ h2, splitN_word h3]
theorem split_rej {s x y d : List Nat} (h1 : 32 ∉ s) (h2 : 32 ∉ x) (h3 : 32 ∉ y) (h4 : 32 ∉ d) : splitN 32 (s ++ wRej ++ x ++ [32] ++ y ++ [32] ++ d) = [s, rejW, x, y, d] := by
  have h : s ++ wRej ++ x ++ [32] ++ y ++ [32] ++ d = s ++ 32 :: (rejW ++ 32 :: (x ++ 32 :: (y ++ 32 :: d))) := by simp [wRej, rejW]
  rw [h, splitN_cons _ h1, splitN_cons _ (show 32 ∉ rejW by decide), splitN_cons _ h2, splitN_cons _ h3, splitN_word h4]
theorem setT_ne {l : List Oid} (hl : l.length ≠ 0) : setT l ≠ [45] := by
  intro h
  have hs := split_set (l := l) (by rintro rfl; exact hl rfl)
  rw [h] at hs
  have h2 : splitN 44 [45] = [[45]] := by decide
  rw [h2] at hs
  cases l with
  | nil => exact hl rfl
  | cons o l =>
    rw [List.map_cons] at hs
    have h3 : textO o = [45] := by
      have := List.cons.inj hs
      exact this.1.symm
    have := textO_char o 45 (by rw [h3]; simp)
    rcases this with h4 | h4
    · have := isDig_rng h4; omega
    · omega
theorem set_back {l : List Oid} (hl : l.length ≠ 0) (hw : wfS l) (hc : chkS l = 0) : itemsOk (splitN 44 (setT l)) ∧ osJ (setT l) = l := by
  have hs := split_set (l := l) (by rintro rfl; exact hl rfl)
  have hp : ∀ o ∈ l, parseO (textO o) = (o, 0) := fun o ho => parse_text (hw o ho) (chkS_ok hc o ho)
  refine ⟨fun j hj => ?_, ?_⟩
  · rw [hs] at hj ⊢
    rw [List.length_map] at hj
    rw [List.getD_eq_getElem?_getD, List.getElem?_map, List.getElem?_eq_getElem hj]
    simp only [Option.map_some, Option.getD_some, hp _ (List.getElem_mem hj)]
  · unfold osJ osP
    rw [hs, List.take_of_length_le (Nat.le_refl _), List.map_map]
    have : ∀ o ∈ l, ((fun x => (parseO x).1) ∘ textO) o = o := fun o ho => by simp [hp o ho]
    rw [List.map_congr_left this, List.map_id']
theorem readE_line {e : En} {a : Nat} (hc : e.chk = 0) (hw : wfS e.l) (ha : a < 65521) : readE (lineT a e) = (newE e, ((sumN a e.body : Nat) : Int), true) := by
  obtain ⟨p1, p2, p3⟩ := chkE_parts hc
  have hsm := sumN_lt e.body ha
  have hd5 : (decN (sumN a e.body)).length ≤ 5 := decF_short 20 _ 4 (by omega)
  have hnum := numS_dec (n := sumN a e.body) (k := 5) (by omega) (by omega)
  have hneg : ¬ ((sumN a e.body : Nat) : Int) < 0 := by omega
  have hnar : ¬ accW = rejW := by decide
  have hnra : ¬ rejW = accW := by decide
  unfold lineT
  generalize hS : sumN a e.body = sm at *
  obtain ⟨s, acc, r, t, w, l⟩ := e
  simp only [En.body, En.chk] at hc p1 p2 p3 hw ⊢
  unfold bodyE
  have n1 := name_no (c := 32) p1 (by omega)
  have n4 := dig_no (c := 32) (n := sm) (by omega)
  cases acc
  · obtain ⟨e1, e2, e3, e4, e5⟩ := chkE_rej hc
    obtain ⟨n, rfl⟩ := Int.eq_ofNat_of_zero_le e3
    have hl0 : l = [] := List.length_eq_zero_iff.1 e5
    subst hl0
    rw [if_pos rfl, Int.toNat_natCast]
    have hd3 : (decN n).length ≤ 2 := decF_short 20 n 1 (by omega)
    have hn3 := numS_dec (n := n) (k := 3) (by omega) (by omega)
    have hr0 := rv_reas e1 e2
    have hne : ¬ ((n : Nat) : Int) < 0 := by omega
    unfold readE
    rw [split_rej n1 (reas_no (by omega)) (dig_no (by omega)) n4]
    simp only [List.length_cons, List.length_nil, Nat.reduceAdd, Nat.reduceSub, Nat.reduceLT, if_false, List.getD_cons_succ, List.getD_cons_zero, hnum, hneg, hnra, false_and, true_and, and_self, if_true, hr0, hn3]
    rw [if_neg (by rintro (h | h); omega; exact hne h)]
    rfl
  · rw [if_neg (by simp)]
    have hb : ¬ (r ≠ 0 ∨ t ≠ 0) := fun h => p2 (.inl ⟨rfl, h⟩)
    have hr0 : r = 0 := Decidable.not_not.1 fun h => hb (.inl h)
    have ht0 : t = 0 := Decidable.not_not.1 fun h => hb (.inr h)
    subst hr0
    subst ht0
    by_cases c1 : l.length = 0
    · rw [if_pos c1]
      have hl0 : l = [] := List.length_eq_zero_iff.1 c1
      subst hl0
      unfold readE
      rw [split_acc n1 (show 32 ∉ [45] by decide) n4]
      simp only [List.length_cons, List.length_nil, Nat.reduceAdd, Nat.reduceSub, Nat.reduceLT, if_false, List.getD_cons_succ, List.getD_cons_zero, hnum, hneg, and_self, if_true]
      rfl
    · rw [if_neg c1]
      obtain ⟨s1, s2⟩ := set_back c1 hw p3
      have hne := setT_ne c1
      unfold readE
      rw [split_acc n1 (set_no (by omega)) n4]
      simp only [List.length_cons, List.length_nil, Nat.reduceAdd, Nat.reduceSub, Nat.reduceLT, if_false, List.getD_cons_succ, List.getD_cons_zero, hnum, hneg, and_self, if_true, hne, s1, s2]
      simp only [newE, exD, if_neg c1]
end Mini
end Go.Proofs.YtgjlofpfbhioaaaGreatDoor
namespace Go.Proofs.YtgjlofpfbhioaaaGreatDoor
namespace Mini
open Go
theorem idx_word {c : Nat} (rest : List Nat) : ∀ {x : List Nat}, c ∉ x → idxN c (x ++ c :: rest) = some x.length
  | [], _ => by simp [idxN]
  | y :: x, h => by
    rw [List.mem_cons, not_or] at h
    rw [List.cons_append]
    unfold idxN
    rw [if_neg (Ne.symm h.1), idx_word rest h.2]
    rfl
theorem lidx_no {c : Nat} : ∀ {x : List Nat}, c ∉ x → lidxN c x = none
  | [], _ => rfl
  | y :: x, h => by
    rw [List.mem_cons, not_or] at h
    unfold lidxN
    rw [lidx_no h.2]
    simp only [if_neg (Ne.symm h.1)]
theorem lidx_word {c : Nat} {y : List Nat} (hy : c ∉ y) : ∀ x : List Nat, lidxN c (x ++ c :: y) = some x.length
  | [] => by
    rw [List.nil_append]
    unfold lidxN
    rw [lidx_no hy]
    simp
  | z :: x => by
    rw [List.cons_append]
    unfold lidxN
    rw [lidx_word hy x]
    rfl
theorem body_no {e : En} (hc : e.chk = 0) : 10 ∉ e.body := by
  obtain ⟨p1, _, _⟩ := chkE_parts hc
  have n1 := name_no (c := 10) p1 (by omega)
  have n2 : 10 ∉ wRej := by decide
  have n3 : 10 ∉ wAcc := by decide
  have n4 := set_no (l := e.l) (c := 10) (by omega)
  have n5 := reas_no (r := e.r) (c := 10) (by omega)
  have n6 := dig_no (c := 10) (n := e.t.toNat) (by omega)
  unfold En.body bodyE
  split
  · simp only [List.mem_append, List.mem_cons, List.not_mem_nil, or_false, not_or]
    exact ⟨⟨⟨⟨n1, n2⟩, n5⟩, by omega⟩, n6⟩
  split
  · simp only [List.mem_append, List.mem_cons, List.not_mem_nil, or_false, not_or]
    exact ⟨⟨n1, n3⟩, by omega⟩
  · simp only [List.mem_append, not_or]
    exact ⟨⟨n1, n3⟩, n4⟩
theorem line_no {e : En} (hc : e.chk = 0) (a : Nat) : 10 ∉ lineT a e := by
  have n1 := body_no hc
  have n2 := dig_no (c := 10) (n := sumN a e.body) (by omega)
  unfold lineT
  simp only [List.mem_append, List.mem_cons, List.not_mem_nil, or_false, not_or]
  exact ⟨⟨n1, by omega⟩, n2⟩
theorem sumL_line (e : En) (a : Nat) : sumL a (lineT a e) = sumN a e.body := by
  have h : lineT a e = e.body ++ 32 :: decN (sumN a e.body) := by simp [lineT]
  unfold sumL
  rw [h, lidx_word (dig_no (by omega)), Option.getD_some, List.take_left]
theorem parseJ_one {f u a : Nat} {l : List En} {e : En} {rest : List Nat} (hc : e.chk = 0) (hw : wfS e.l) (ha : a < 65521) (hl : l.length < 4096) : parseJ (f + 1) l u a (lineE a e ++ rest) = parseJ f (l ++ [newE e]) (u + (lineE a e).length) (sumN a e.body) rest := by
  have h1 : lineE a e ++ rest = lineT a e ++ 10 :: rest := by rw [lineE_T]; simp
  have h2 : (lineE a e).length = (lineT a e).length + 1 := by rw [lineE_T]; simp
  have h3 : (lineT a e ++ 10 :: rest).take (lineT a e).length = lineT a e := List.take_left
  have h4 : (lineT a e ++ 10 :: rest).drop ((lineT a e).length + 1) = rest := by rw [List.drop_length_add_append]; rfl
  have hr := readE_line hc hw ha
  have hck : (newE e).chk = 0 := hc
  rw [h1, h2, parseJ, idx_word rest (line_no hc a)]
  simp only [h3, h4, hr, sumL_line, hck]
  rw [if_neg (by omega), if_neg (by simp), if_neg (by simp), if_neg (by simp)]
  rfl
theorem parseJ_many : ∀ (us : List En) {f u a : Nat} {l : List En} {rest : List Nat}, (∀ e ∈ us, e.chk = 0) → (∀ e ∈ us, wfS e.l) → a < 65521 → l.length + us.length ≤ 4096 → parseJ (f + us.length) l u a (textJ a us ++ rest) = parseJ f (l ++ us.map newE) (u + (textJ a us).length) (lastJ a us) rest
  | [], f, u, a, l, rest, _, _, _, _ => by simp [textJ, lastJ]
  | e :: us, f, u, a, l, rest, h1, h2, h3, h4 => by
    simp only [List.length_cons] at h4
    have ih := parseJ_many us (f := f) (u := u + (lineE a e).length) (a := sumN a e.body) (l := l ++ [newE e]) (rest := rest) (fun x hx => h1 x (List.mem_cons_of_mem _ hx)) (fun x hx => h2 x (List.mem_cons_of_mem _ hx)) (sumN_lt _ h3) (by rw [List.length_append, List.length_singleton]; omega)
    rw [List.length_cons, ← Nat.add_assoc, textJ, List.append_assoc, parseJ_one (h1 _ List.mem_cons_self) (h2 _ List.mem_cons_self) h3 (by omega), ih, List.map_cons, List.append_assoc, List.length_append, Nat.add_assoc]
    rfl
theorem textJ_ge : ∀ (us : List En) (a : Nat), us.length ≤ (textJ a us).length
  | [], _ => Nat.le_refl _
  | e :: us, a => by
    have := textJ_ge us (sumN a e.body)
    rw [textJ, List.length_append, lineE_T, List.length_append]
    simp only [List.length_cons, List.length_nil]
    omega
theorem pJ_text {us : List En} (h1 : ∀ e ∈ us, e.chk = 0) (h2 : ∀ e ∈ us, wfS e.l) (h3 : us.length ≤ 4096) : pJ (textJ 0 us) = (us.map newE, (textJ 0 us).length, lastJ 0 us, 0) := by
  have hge := textJ_ge us 0
  have h := parseJ_many us (f := (textJ 0 us).length - us.length + 1) (u := 0) (a := 0) (l := []) (rest := []) h1 h2 (by decide) (by simpa using h3)
  rw [List.append_nil, List.nil_append, Nat.zero_add, show (textJ 0 us).length - us.length + 1 + us.length = (textJ 0 us).length + 1 by omega] at h
  unfold pJ
  rw [h, parseJ]
  rfl
end Mini
end Go.Proofs.YtgjlofpfbhioaaaGreatDoor
namespace Go.Proofs.YtgjlofpfbhioaaaGreatDoor
namespace Mini
open Go
variable {m : Int} {X : Ctx}
def parV (j : List Nat) : V := if (pJ j).2.2.2 = 0 then .tup [.c (.d (.sl ((pJ j).1.flatMap En.ds) (pJ j).1.length)), i64 (pJ j).2.1, i64 0, i64 0] else .tup [.c (.d .nils), i64 0, i64 ((pJ j).1.length + 1 : Nat), i64 (pJ j).2.2.2]
theorem v37 (hX : XOj m X) {N : Nat} {j : List Nat} (hN : j.length + 1200 ≤ N) (hj : j.length < 800000) (hb : ∀ c ∈ j, c < 256) (hl : (pJ j).1.length ≤ 4096) : (zenv X N).vcall 37 [strV j] = some (parV j) := by
  obtain ⟨H, h37, h5⟩ := f37 hX hN hj hb hl
  refine hX.vc (k := 37) (F := fn37) rfl (vcall_of h37 ?_)
  unfold parV
  split
  · have hdp := deep_en (c := some (pJ j).1.length) h5 rfl
    simp only [deepV, mapO, deepV1, hdp, Option.map_some, i64]
    rfl
  · rfl
theorem parseJ_used : ∀ (f : Nat) (l : List En) (u la : Nat) (s : List Nat), (parseJ f l u la s).2.1 ≤ u + s.length
  | 0, _, _, _, _ => Nat.le_add_right _ _
  | f + 1, l, u, la, s => by
    unfold parseJ
    cases hi : idxN 10 s with
    | none => exact Nat.le_add_right _ _
    | some i =>
      have hil := idx_le hi
      have ih := parseJ_used f (l ++ [newE (readE (s.take i)).1]) (u + i + 1) (sumL la (s.take i)) (s.drop (i + 1))
      rw [List.length_drop] at ih
      simp only
      split
      · exact Nat.le_add_right _ _
      split
      · exact Nat.le_add_right _ _
      split
      · exact Nat.le_add_right _ _
      split
      · exact Nat.le_add_right _ _
      · omega
theorem f43 (hX : XOj m X) {N : Nat} {j : List Nat} (hN : j.length + 1200 ≤ N) (hj : j.length < 800000) (hb : ∀ c ∈ j, c < 256) (hl : (pJ j).1.length ≤ 4095) : vcallN X N 43 [strV j] = some (.tup [strV (j.take (pJ j).2.1), i64 ((pJ j).1.length : Nat), i64 0]) := by
  obtain ⟨N, rfl⟩ : ∃ M, N = M + 1 := ⟨N - 1, by omega⟩
  have hF : fnsX 43 = some fn43' := rfl
  have h71 := v71 hX (N := N) (j := j) (by omega) hj hb
  have hu := parseJ_used (j.length + 1) [] 0 0 j
  have hc : ¬ (j.length : Int) > 1048576 := by omega
  have g1 : (((pJ j).1.length : Int) == 4096) = false := by rw [beq_eq_false_iff_ne]; omega
  have hu2 : (pJ j).2.1 ≤ j.length := by simpa using hu
  refine vcall_of (r := .tup [strV (j.take (pJ j).2.1), i64 ((pJ j).1.length : Nat), i64 0]) (H := []) ?_ rfl
  rw [hX.fn hF]
  refine (rf_fin _ _ _ _ _ _ _ _ _ (by rfl)).trans ?_
  generalize hP : pJ j = P at *
  obtain ⟨l, u, la, er⟩ := P
  simp only at *
  generalize l.flatMap En.ds = ds at *
  generalize l.length = n at *
  simp only [strV, i64] at h71
  cases g3 : ((er : Int) == 3)
  · simp only [strV, optNat, hc, h71, g3, hu2, Option.map_none, Option.map_some, List.drop_zero, Nat.zero_le, freeze_nil, reachV, reachC, ite_self, List.flatMap_cons, List.flatMap_nil, ↓sp_len, evs, Nat.reduceSub]
  · simp only [strV, optNat, hc, h71, g1, g3, hu2, Option.map_none, Option.map_some, List.drop_zero, Nat.zero_le, freeze_nil, reachV, reachC, ite_self, List.flatMap_cons, List.flatMap_nil, ↓sp_len, evs, Nat.reduceSub]
end Mini
end Go.Proofs.YtgjlofpfbhioaaaGreatDoor
namespace Go.Proofs.YtgjlofpfbhioaaaGreatDoor
namespace Mini
open Go
variable {m : Int} {X : Ctx}
theorem line_small {e : En} (hc : e.chk = 0) (h7 : e.l.length ≤ 7) (a : Nat) : (lineE a e).length ≤ 2700 := by
  obtain ⟨p1, p2, p3⟩ := chkE_parts hc
  have k1 := nameB_ok p1
  have k4 := setT_len e.l (fun o ho => (chkO_n (chkS_ok p3 o ho)).2)
  have hrl := reasT_len e.r
  have hdl := (decF_len 20 e.t.toNat).1
  have hdl2 := (decF_len 20 (sumN a e.body)).1
  have l1 : wRej.length = 10 := rfl
  have l2 : wAcc.length = 10 := rfl
  have hb : e.body.length ≤ 2600 := by
    unfold En.body bodyE
    split
    · simp only [List.length_append, List.length_cons, List.length_nil, decN]; omega
    split
    · simp only [List.length_append, List.length_cons, List.length_nil]; omega
    · simp only [List.length_append]; omega
  simp only [lineE, List.length_append, List.length_cons, List.length_nil, decN]; omega
theorem text_small : ∀ {l : List En} (a : Nat), (∀ e ∈ l, e.chk = 0) → (∀ e ∈ l, e.l.length ≤ 7) → (textJ a l).length ≤ 2700 * l.length
  | [], _, _, _ => Nat.le_refl _
  | e :: l, a, h, h7 => by
    have h1 := line_small (h e List.mem_cons_self) (h7 e List.mem_cons_self) a
    have h2 := text_small (l := l) (sumN a e.body) (fun x hx => h x (List.mem_cons_of_mem _ hx)) (fun x hx => h7 x (List.mem_cons_of_mem _ hx))
    rw [textJ, List.length_append, List.length_cons]
    omega
theorem textJ_byte : ∀ {l : List En} (a : Nat), (∀ e ∈ l, e.chk = 0) → ∀ c ∈ textJ a l, c < 256
  | [], _, _, c, hc => by cases hc
  | e :: l, a, h, c, hc => by
    rw [textJ, List.mem_append] at hc
    rcases hc with hc | hc
    · simp only [lineE, List.mem_append, List.mem_cons, List.not_mem_nil, or_false] at hc
      rcases hc with ((hc | hc) | hc) | hc
      · exact (body_ok (h e List.mem_cons_self)).1 c hc
      · omega
      · exact decF_byte 20 _ c hc
      · omega
    · exact textJ_byte _ (fun x hx => h x (List.mem_cons_of_mem _ hx)) c hc
theorem alike_new (l : List En) : alikeE (l.map newE) l := by
  refine ⟨List.length_map _, fun j hj => ?_⟩
  rw [List.length_map] at hj
  have : (l.map newE).getD j e0 = newE (l.getD j e0) := by
    rw [List.getD_eq_getElem?_getD, List.getElem?_map, List.getElem?_eq_getElem hj, List.getD_eq_getElem?_getD, List.getElem?_eq_getElem hj]; rfl
  rw [this]
  exact ⟨rfl, rfl, rfl, rfl, rfl⟩
theorem wf_new {l : List En} (h : wfEs l) : wfEs (l.map newE) := fun e he => by
  obtain ⟨x, hx, rfl⟩ := List.mem_map.1 he
  exact ⟨exD_is _, (h x hx).2⟩
end Mini
end Go.Proofs.YtgjlofpfbhioaaaGreatDoor
namespace Go.Proofs.YtgjlofpfbhioaaaGreatDoor
namespace Mini
open Go
variable {m : Int} {X : Ctx}
theorem idx_no {c : Nat} : ∀ {x : List Nat}, c ∉ x → idxN c x = none
  | [], _ => rfl
  | y :: x, h => by
    rw [List.mem_cons, not_or] at h
    unfold idxN
    rw [if_neg (Ne.symm h.1), idx_no h.2]
theorem textJ_app (v : List En) : ∀ (u : List En) (a : Nat), textJ a (u ++ v) = textJ a u ++ textJ (lastJ a u) v
  | [], _ => rfl
  | e :: u, a => by
    rw [List.cons_append, textJ, textJ, textJ_app v u, List.append_assoc]
    rfl
theorem pJ_cut {us : List En} {r : List Nat} (h1 : ∀ e ∈ us, e.chk = 0) (h2 : ∀ e ∈ us, wfS e.l) (h3 : us.length ≤ 4096) (hr : 10 ∉ r) : pJ (textJ 0 us ++ r) = (us.map newE, (textJ 0 us).length, lastJ 0 us, 0) := by
  have hge := textJ_ge us 0
  have hal : (textJ 0 us ++ r).length = (textJ 0 us).length + r.length := List.length_append
  have h := parseJ_many us (f := (textJ 0 us ++ r).length - us.length + 1) (u := 0) (a := 0) (l := []) (rest := r) h1 h2 (by decide) (by simpa using h3)
  rw [List.nil_append, Nat.zero_add, show (textJ 0 us ++ r).length - us.length + 1 + us.length = (textJ 0 us ++ r).length + 1 by omega] at h
  unfold pJ
  rw [h, parseJ, idx_no hr]
theorem cut_rest {l : List En} {n c : Nat} (hl : ∀ e ∈ l, e.chk = 0) (h1 : (textJ 0 (l.take n)).length ≤ c) (h2 : n < l.length → c < (textJ 0 (l.take (n + 1))).length) : ∃ r, (textJ 0 l).take c = textJ 0 (l.take n) ++ r ∧ 10 ∉ r := by
  have hT : textJ 0 l = textJ 0 (l.take n) ++ textJ (lastJ 0 (l.take n)) (l.drop n) := by rw [← textJ_app, List.take_append_drop]
  refine ⟨(textJ (lastJ 0 (l.take n)) (l.drop n)).take (c - (textJ 0 (l.take n)).length), ?_, ?_⟩
  · rw [hT, List.take_append, List.take_of_length_le h1]
  · by_cases hn : n < l.length
    · have h2 := h2 hn
      have hd := dropE (l := l) (i := n) hn
      rw [takeE hn, textJ_snoc, List.length_append] at h2
      rw [hd, textJ]
      have hm := getE_mem hn
      generalize l.getD n e0 = e at *
      generalize lastJ 0 (l.take n) = la at *
      have hno := line_no (hl e hm) la
      rw [lineE_T] at h2 ⊢
      rw [List.length_append, List.length_singleton] at h2
      have hk : c - (textJ 0 (l.take n)).length ≤ (lineT la e).length := by omega
      rw [List.append_assoc, List.take_append_of_le_length hk]
      exact fun hc => hno (List.mem_of_mem_take hc)
    · rw [List.drop_of_length_le (by omega)]
      simp [textJ]
theorem find_stop (p : Nat → Prop) [DecidablePred p] : ∀ k : Nat, ∃ n, n ≤ k ∧ (∀ j, j < n → p j) ∧ (n < k → ¬ p n)
  | 0 => ⟨0, Nat.le_refl _, fun _ h => absurd h (Nat.not_lt_zero _), fun h => absurd h (Nat.not_lt_zero _)⟩
  | k + 1 => by
    obtain ⟨n, h1, h2, h3⟩ := find_stop p k
    by_cases hn : n < k
    · exact ⟨n, by omega, h2, fun _ => h3 hn⟩
    · have : n = k := by omega
      subst this
      by_cases hp : p n
      · refine ⟨n + 1, Nat.le_refl _, fun j hj => ?_, fun h => by omega⟩
        rcases Nat.lt_or_eq_of_le (Nat.le_of_lt_succ hj) with h | rfl
        · exact h2 j h
        · exact hp
      · exact ⟨n, by omega, h2, fun _ => hp⟩
theorem f36s (hX : XOj m X) {N : Nat} {j : List Nat} {e : En} {u la : Nat} {l : List En} (hN : j.length + 100000 ≤ N) (hj : j.length < 800000) (hb : ∀ c ∈ j, c < 256) (hp : pJ j = (l, u, la, 0)) (hu : u < j.length) : vcallN X N 36 [strV j, .agg (e.ds.map .d)] = some (.tup [strV [], i64 7]) := by
  obtain ⟨N, rfl⟩ : ∃ M, N = M + 1 := ⟨N - 1, by omega⟩
  have hF : fnsX 36 = some fn36' := rfl
  have h71 := v71 hX (N := N) (j := j) (by omega) hj hb
  rw [hp] at h71
  have hj1 : ¬ (j.length : Int) > 1048576 := by omega
  have hj2 : (u : Int) < (j.length : Int) := by omega
  have g0 : ((0 : Int) != 0) = false := rfl
  generalize l.flatMap En.ds = ds at *
  simp only [strV, i64, Int.natCast_zero] at h71
  simp only [En.ds, List.map_cons, List.map_nil]
  refine vcall_of (r := .tup [strV [], i64 7]) (H := [.cells [.d (.str e.s), .d (.bool e.acc), .d (.int .u8 (e.r : Int)), .d (.int .i64 e.t), .d e.w] 0 false]) ?_ rfl
  rw [hX.fn hF]
  refine (rf_fin _ _ _ _ _ _ _ _ _ (by rfl)).trans ?_
  simp only [strV, h71, hj1, hj2, g0, freeze_nil, reachV, reachC, ite_self, List.flatMap_cons, List.flatMap_nil, evs, Nat.reduceAdd, Nat.reduceSub]
end Mini
end Go.Proofs.YtgjlofpfbhioaaaGreatDoor
namespace Go.Proofs.YtgjlofpfbhioaaaGreatDoor
namespace Mini
open Go
variable {m : Int} {X : Ctx}
theorem take_en (l : List En) (j : Nat) : (l.flatMap En.ds).take (j * 5) = (l.take j).flatMap En.ds := by
  induction l generalizing j with
  | nil => simp
  | cons e l ih =>
    cases j with
    | zero => simp
    | succ j =>
      rw [List.take_succ_cons, List.flatMap_cons, List.flatMap_cons, ← ih, Nat.succ_mul, Nat.add_comm, List.take_append]
      have : e.ds.length = 5 := rfl
      rw [this, List.take_of_length_le (by omega), Nat.add_sub_cancel_left]
abbrev R11 (L : D) (ct wh : List Nat) (j : Nat) (x20 : V) : List V := [.any, .any, .any, .c (.ptr 0 0 0), .any, .c (.d L), .any, strV ct, strV wh, i64 (j : Int), .any, .any, .any, .any, .any, .any, .any, .any, .any, .any, x20, .any, .any]
set_option maxHeartbeats 1000000 in
theorem it11 (hX : XOj m X) {N : Nat} (hN : 200000 ≤ N) {l : List En} {ct : List Nat} {n : Nat} {o : Ob} (hl : wfEs l) (hc : ∀ e ∈ l, e.chk = 0) (hlen : l.length ≤ 12) (hn : n ≤ l.length) (h1 : ∀ j, j < n → (textJ 0 (l.take (j + 1))).length ≤ ct.length) (h2 : n < l.length → ¬ (textJ 0 (l.take (n + 1))).length ≤ ct.length) :
    iter (some [3, 5, 7, 8, 9]) 1 (exec (zenv X N) N false fn11L0) N ⟨R11 (.sl (l.flatMap En.ds) l.length) ct [] 0 .any, [o]⟩ = some (.exit 0, ⟨R11 (.sl (l.flatMap En.ds) l.length) ct (textJ 0 (l.take n)) n (bl false), [o]⟩) := by
  have hDS : (l.flatMap En.ds).length = l.length * 5 := flD_len (fun _ _ => rfl)
  have h38 : ∀ j, j ≤ l.length → (zenv X N).vcall 38 [.c (.d (.sl ((l.take j).flatMap En.ds) j))] = some (strV (textJ 0 (l.take j))) := fun j hj => by
    have hlj : (l.take j).length = j := by rw [List.length_take]; omega
    exact hX.vc (k := 38) (F := fn38) rfl (f38 hX (N := N) (by omega) (l := l.take j) (.inr (by rw [hlj])) (fun e he => hl e (List.mem_of_mem_take he)) (fun e he => hc e (List.mem_of_mem_take he)) (by omega))
  have h0t : textJ 0 (l.take 0) = [] := rfl
  have key := iter_to (js := some [3, 5, 7, 8, 9]) (hl := 1) (body := exec (zenv X N) N false fn11L0) (fun j => ⟨R11 (.sl (l.flatMap En.ds) l.length) ct (textJ 0 (l.take j)) j .any, [o]⟩) (e := .exit 0) (s := ⟨R11 (.sl (l.flatMap En.ds) l.length) ct (textJ 0 (l.take n)) n (bl false), [o]⟩) (fun h => by cases h) n 0 N (fun j _ hj => ?_) ?_ (by omega)
  · simp only [h0t] at key
    exact key
  · have hj' : j < l.length := by omega
    have h4 : (j : Int) < (l.length : Int) := by omega
    have h6 := wrap_succ (k := j) (by omega)
    have hk := h1 j (by omega)
    have hk' : ((textJ 0 (l.take (j + 1))).length : Int) ≤ (ct.length : Int) := by omega
    have h38j := h38 (j + 1) (by omega)
    clear h38
    have hcut := take_en l (j + 1)
    have k1 : j + 1 ≤ l.length := hj'
    generalize textJ 0 (l.take (j + 1)) = t2 at *
    generalize textJ 0 (l.take j) = t1 at *
    generalize (l.take (j + 1)).flatMap En.ds = d2 at *
    generalize l.flatMap En.ds = DS at *
    generalize l.length = L at *
    refine ⟨⟨R11 (.sl DS L) ct t2 (j + 1) (bl true), [o]⟩, ?_, gc_le (Nat.le_refl 1)⟩
    simp only [strV] at h38j
    simp only [fn11L0, R11, strV, optNat, h4, h6, hk', h38j, hcut, hDS, k1, Nat.sub_zero, Nat.zero_mul, Nat.zero_le, Nat.le_refl, Option.map_none, Option.map_some, List.drop_zero, freeze_nil, reachV, reachC, ite_self, List.flatMap_cons, List.flatMap_nil, ↓sp_len, evs]
  · rw [Nat.zero_add]
    by_cases hnl : n < l.length
    · have h2 := h2 hnl
      have h4 : (n : Int) < (l.length : Int) := by omega
      have h6 := wrap_succ (k := n) (by omega)
      have hk' : ¬ ((textJ 0 (l.take (n + 1))).length : Int) ≤ (ct.length : Int) := by omega
      have h38j := h38 (n + 1) (by omega)
      clear h38
      have hcut := take_en l (n + 1)
      have k1 : n + 1 ≤ l.length := hnl
      generalize textJ 0 (l.take (n + 1)) = t2 at *
      generalize textJ 0 (l.take n) = t1 at *
      generalize (l.take (n + 1)).flatMap En.ds = d2 at *
      generalize l.flatMap En.ds = DS at *
      generalize l.length = L at *
      simp only [strV] at h38j
      simp only [fn11L0, R11, strV, optNat, h4, h6, hk', h38j, hcut, hDS, k1, Nat.sub_zero, Nat.zero_mul, Nat.zero_le, Nat.le_refl, Option.map_none, Option.map_some, List.drop_zero, freeze_nil, reachV, reachC, ite_self, List.flatMap_cons, List.flatMap_nil, ↓sp_len, evs]
    · have h4 : ¬ (n : Int) < (l.length : Int) := by omega
      simp only [fn11L0, R11, strV, h4, ↓sp_len, evs]
end Mini
end Go.Proofs.YtgjlofpfbhioaaaGreatDoor
namespace Go.Proofs.YtgjlofpfbhioaaaGreatDoor
namespace Mini
open Go
variable {m : Int} {X : Ctx}
theorem f44_vc (hX : XOj m X) {N : Nat} (hN : 100 ≤ N) {x : Ej} (hx : wfJ x) : (zenv X N).vcall 44 [.agg (x.ds.map .d)] = some (.agg ((enO x).ds.map .d)) := hX.vc (k := 44) (F := fn44) rfl (f44 hX hN hx)
set_option maxHeartbeats 2000000 in
theorem f11 (hX : XOj m X) {N : Nat} (hN : 300000 ≤ N) {w : D} {xs : List Ej} (hw : isEjs w xs) (hx : ∀ x ∈ xs, wfJ x) {at' : Nat} (hat : at' < 65536) {y : Ej} (hy : wfJ y) : vcallN X N 11 [.c (.d w), .c (.d (.int .u16 (at' : Int))), .agg (y.ds.map .d)] = some (bl true) := by
  obtain ⟨N, rfl⟩ : ∃ M, N = M + 1 := ⟨N - 1, by omega⟩
  have hF : fnsX 11 = some fn11' := rfl
  have hlv := f40 hX (N := N) (by omega)
  have h35 := hX.vc (k := 35) (F := fn35) rfl (f35 hX (N := N) (by omega) hw hx)
  have hlen := lstJ_len xs (min xs.length 12)
  obtain ⟨k1, k2, k3⟩ := lstJ_ok xs (min xs.length 12)
  have hn12 : min xs.length 12 ≤ 12 := Nat.min_le_right _ _
  generalize lstJ xs (min xs.length 12) = l at *
  generalize min xs.length 12 = L at *
  subst hlen
  have hE : isEns (.sl (l.flatMap En.ds) l.length) l := .inr rfl
  have h38 := hX.vc (k := 38) (F := fn38) rfl (f38 hX (N := N) (by omega) hE k2 k1 (by omega))
  have hsz : (textJ 0 l).length ≤ 32400 := by have := text_small (l := l) 0 k1 k3; omega
  have hcl : at' % ((textJ 0 l).length + 1) ≤ (textJ 0 l).length := Nat.le_of_lt_succ (Nat.mod_lt _ (Nat.succ_pos _))
  have q1 : (at' : Int).tmod (((textJ 0 l).length + 1 : Nat) : Int) = ((at' % ((textJ 0 l).length + 1) : Nat) : Int) := (Int.ofNat_tmod _ _).symm
  have q2 := wrap_succ (k := (textJ 0 l).length) (by omega)
  have q3 : IntKind.i64.wrap (at' : Int) = (at' : Int) := wrap_nat (by omega)
  have q4 : ¬ (((textJ 0 l).length + 1 : Nat) : Int) = 0 := by omega
  generalize at' % ((textJ 0 l).length + 1) = c at *
  have hctl : ((textJ 0 l).take c).length = c := by rw [List.length_take]; omega
  have hctb : ∀ b ∈ (textJ 0 l).take c, b < 256 := fun b hb => textJ_byte 0 k1 b (List.mem_of_mem_take hb)
  obtain ⟨n, n1, n2, n3⟩ := find_stop (fun j => (textJ 0 (l.take (j + 1))).length ≤ c) l.length
  have hTn : (textJ 0 (l.take n)).length ≤ c := by
    cases n with
    | zero => exact Nat.zero_le _
    | succ n => exact n2 n (Nat.lt_succ_self n)
  obtain ⟨r, hr1, hr2⟩ := cut_rest (l := l) (n := n) (c := c) k1 hTn (fun h => Nat.lt_of_not_le (n3 h))
  have hln : (l.take n).length = n := by rw [List.length_take]; omega
  have t1 : ∀ e ∈ l.take n, e.chk = 0 := fun e he => k1 e (List.mem_of_mem_take he)
  have t2 : wfEs (l.take n) := fun e he => k2 e (List.mem_of_mem_take he)
  have t3 : ∀ e ∈ l.take n, e.l.length ≤ 7 := fun e he => k3 e (List.mem_of_mem_take he)
  have hpc := pJ_cut (r := r) t1 (fun e he => (t2 e he).2) (by omega) hr2
  rw [← hr1] at hpc
  have hpt := pJ_text t1 (fun e he => (t2 e he).2) (by omega)
  have hit := fun o : Ob => it11 hX (N := N) (by omega) (ct := (textJ 0 l).take c) (o := o) k2 k1 (by omega) n1 (fun j hj => by rw [hctl]; exact n2 j hj) (fun h => by rw [hctl]; exact n3 h)
  have h37 := v37 hX (N := N) (j := (textJ 0 l).take c) (by omega) (by omega) hctb (by rw [hpc]; simp only [List.length_map]; omega)
  have h43 := hX.vc (k := 43) (F := fn43) rfl (f43 hX (N := N) (j := (textJ 0 l).take c) (by omega) (by omega) hctb (by rw [hpc]; simp only [List.length_map]; omega))
  unfold parV at h37
  rw [hpc] at h37 h43
  rw [if_pos rfl] at h37
  simp only [List.length_map, hln] at h37 h43
  have hTk : ((textJ 0 l).take c).take (textJ 0 (l.take n)).length = textJ 0 (l.take n) := by rw [hr1, List.take_left]
  rw [hTk] at h43
  obtain ⟨e1, e2, e3⟩ := enO_ok y
  have h44 := f44_vc hX (N := N) (by omega) hy
  have hes : (enO y).s.length ≤ 100 := by have := nameB_ok (chkE_parts e1).1; omega
  have hll := lastJ_lt (l.take n) (a := 0) (by decide)
  have hsm := line_small e1 e3 (lastJ 0 (l.take n))
  have hTb : ∀ b ∈ textJ 0 (l.take n), b < 256 := textJ_byte 0 t1
  have h36 := hX.vc (k := 36) (F := fn36) rfl (f36 hX (N := N) (j := textJ 0 (l.take n)) (e := enO y) (by omega) (by omega) hTb hpt (by rw [List.length_map]; omega) hll e2.1 e2.2 (by omega) hes e1 (by rw [List.length_append]; omega))
  have h36c : ∃ (z : List Nat) (g : Nat), (zenv X N).vcall 36 [strV ((textJ 0 l).take c), .agg ((enO y).ds.map .d)] = some (.tup [strV z, i64 (g : Int)]) ∧ (c = (textJ 0 (l.take n)).length ∧ g = 0 ∨ (textJ 0 (l.take n)).length < c ∧ g = 7) := by
    by_cases hcc : c = (textJ 0 (l.take n)).length
    · have : (textJ 0 l).take c = textJ 0 (l.take n) := by
        have h := congrArg List.length hr1
        rw [hctl, List.length_append] at h
        have hr0 : r = [] := List.length_eq_zero_iff.1 (by omega)
        rw [hr1, hr0, List.append_nil]
      rw [this]
      exact ⟨_, 0, h36, .inl ⟨hcc, rfl⟩⟩
    · refine ⟨[], 7, ?_, .inr ⟨by omega, rfl⟩⟩
      exact hX.vc (k := 36) (F := fn36) rfl (f36s hX (N := N) (e := enO y) (by omega) (by omega) hctb hpc (by rw [hctl]; omega))
  obtain ⟨z, g, h36c, hg⟩ := h36c
  rw [← textJ_snoc] at h36
  have hsn : wfEs (l.take n ++ [enO y]) := fun e he => by
    rcases List.mem_append.1 he with he | he
    · exact t2 e he
    · rw [List.mem_singleton] at he; subst he; exact e2
  have hsc : ∀ e ∈ l.take n ++ [enO y], e.chk = 0 := fun e he => by
    rcases List.mem_append.1 he with he | he
    · exact t1 e he
    · rw [List.mem_singleton] at he; subst he; exact e1
  have hsl : (l.take n ++ [enO y]).length = n + 1 := by rw [List.length_append, hln]; rfl
  have h38s := hX.vc (k := 38) (F := fn38) rfl (f38 hX (N := N) (w := .sl ((l.take n ++ [enO y]).flatMap En.ds) (n + 1)) (by omega) (.inr (by rw [hsl])) hsn hsc (by omega))
  have hB : isEns (.sl (((l.take n).map newE).flatMap En.ds) n) ((l.take n).map newE) := .inr (by rw [List.length_map, hln])
  have h39 := hX.vc (k := 39) (F := fn39) rfl (f39 hX (N := N) (by rw [List.length_map]; omega) hB (w' := .sl ((l.take n).flatMap En.ds) n) (.inr (by rw [hln])) (wf_new t2) t2 (by rw [List.length_map]; omega) (fun e he => by
    obtain ⟨x, hx', rfl⟩ := List.mem_map.1 he
    have := t3 x hx'
    show x.l.length ≤ 300
    omega))
  rw [if_pos (alike_new _)] at h39
  have hcut := take_en l n
  have hDS : (l.flatMap En.ds).length = l.length * 5 := flD_len (fun _ _ => rfl)
  have hds : ((l.take n).flatMap En.ds).length = n * 5 := by rw [flD_len (k := 5) (fun _ _ => rfl), hln]
  have hap : eC (l.take n ++ [enO y]) = eC (l.take n) ++ (enO y).ds.map .d := eC_snoc _ _
  have hEC : List.map C.d ((l.take n).flatMap En.ds) = eC (l.take n) := rfl
  have hECl := eC_len (l.take n)
  rw [hln] at hECl
  have hdp := fun (x0 x2 : Ob) (gg : Nat) => deep_en (H := [x0, .cells (eC (l.take n ++ [enO y])) gg false, x2]) (id := 1) (g := gg) (c := none) (n := n + 1) rfl hsl
  have hdp0 := fun (x0 x1 : Ob) (gg : Nat) => deep_en (H := [x0, x1, .cells (eC (l.take n ++ [enO y])) gg false]) (id := 2) (g := gg) (c := none) (n := n + 1) rfl hsl
  rw [hap] at hdp hdp0
  have hit := hit (.cells (y.ds.map .d) 0 false)
  suffices h : ∃ H, callN X (N + 1) (.d (.fn 11 [] [])) [.c (.d w), .c (.d (.int .u16 (at' : Int))), .agg (y.ds.map .d)] [] = some (bl true, H) by
    obtain ⟨H, h⟩ := h
    exact vcall_of h rfl
  rw [hX.fn hF]
  have g0 : ((0 : Int) != 0) = false := rfl
  have g00 : ((0 : Int) == 0) = true := rfl
  have g10 : ((1 : Int) == 0) = false := rfl
  have gtt : ∀ t : List Nat, (t == t) = true := fun t => by simp
  have gaa : ∀ a : Int, (a != a) = false := fun a => by simp
  have hnL : n ≤ l.length := n1
  have hcz : c ≤ (textJ 0 l).length := hcl
  have hyl : (y.ds.map C.d).length = 5 := rfl
  have hen : ((enO y).ds.map C.d) = [.d (.str (enO y).s), .d (.bool (enO y).acc), .d (.int .u8 ((enO y).r : Int)), .d (.int .i64 (enO y).t), .d (enO y).w] := rfl
  have hyd : (y.ds.map C.d) = [.d (.int .u8 (y.nm : Int)), .d (.bool y.acc), .d (.int .u8 (y.rs : Int)), .d (.int .u8 (y.tt : Int)), .d y.w] := rfl
  have k1e : n + 1 ≤ 1073741824 := by omega
  have k2e : 0 + 1 < genK := by show 0 + 1 < 1000000; omega
  have k3e : n ≤ 1073741824 := by omega
  have htkE : (eC (l.take n)).take (n * 5) = eC (l.take n) := List.take_of_length_le (by omega)
  rw [hen] at h44 h36 h36c hdp hdp0
  rw [hyd] at hit h44 ⊢
  simp only [strV, i64] at h35 h38 h37 h43 h36 h36c h38s h39 hlv
  simp only [R11, strV, i64, bl, Int.natCast_zero] at hit
  have hgg : (((g : Int) == 7) != decide (((c : Nat) : Int) > ((textJ 0 (l.take n)).length : Int))) = false ∧ ((((g : Int) != 0) = false) ∨ (((g : Int) != 0) = true ∧ ((g : Int) != 7) = false)) := by
    rcases hg with ⟨a1, rfl⟩ | ⟨a1, rfl⟩
    · refine ⟨?_, .inl rfl⟩
      rw [decide_eq_false (by omega)]; rfl
    · refine ⟨?_, .inr ⟨rfl, rfl⟩⟩
      rw [decide_eq_true (by omega)]; rfl
  obtain ⟨hg1, hg2⟩ := hgg
  have hct : ∀ t : List Nat, t = (textJ 0 l).take c → t.length = c := fun t h => by rw [h]; exact hctl
  generalize hctE : (textJ 0 l).take c = ct at *
  generalize textJ 0 (l.take n) = tn at *
  generalize textJ 0 (l.take n ++ [enO y]) = ts at *
  generalize textJ 0 l = tl at *
  generalize hdE : eC (l.take n) = EC at *
  generalize (l.take n ++ [enO y]).flatMap En.ds = dz at *
  generalize ((l.take n).map newE).flatMap En.ds = dn at *
  generalize (l.take n).flatMap En.ds = d1 at *
  generalize l.flatMap En.ds = DS at *
  generalize l.length = L at *
  generalize (enO y).s = es at *
  generalize (enO y).acc = ea at *
  generalize (enO y).r = er at *
  generalize (enO y).t = et at *
  generalize (enO y).w = ew at *
  clear hr1 hTk hctb hpc hpt hTb hE hB
  have bridge : ∀ x : Int, ((x == 7) != decide ((ct.length : Int) > (tn.length : Int))) = ((x == 7) != decide ((c : Int) > (tn.length : Int))) := fun x => by rw [hctl]
  have hEC0 : n = 0 → EC = [] := fun h => by
    refine List.length_eq_zero_iff.1 ?_
    rw [hECl, h]
  have gx0 : (true ^^ (false == false)) = false := rfl
  have gx1 : (true ^^ (true == true)) = false := rfl
  have g07 : ((0 : Int) == 7) = false := rfl
  have g77 : ((7 : Int) == 7) = true := rfl
  have g70 : ((7 : Int) != 0) = true := rfl
  have g7n : ((7 : Int) != 7) = false := rfl
  clear hg1 hg2 bridge
  by_cases hn0 : n = 0
  · have hE0 := hEC0 hn0
    subst hn0
    subst hE0
    simp only [Nat.zero_add, List.nil_append, Int.natCast_zero, Nat.zero_mul] at hdp0 h38s h39 hit h43 h37 hcut
    rcases hg with ⟨a1, rfl⟩ | ⟨a1, rfl⟩
    · have a2 : ¬ (ct.length : Int) > (tn.length : Int) := by omega
      refine ⟨[.cells [.d (.int .u8 (y.nm : Int)), .d (.bool y.acc), .d (.int .u8 (y.rs : Int)), .d (.int .u8 (y.tt : Int)), .d y.w] 0 false, .cells [.d (.str es), .d (.bool ea), .d (.int .u8 (er : Int)), .d (.int .i64 et), .d ew] 0 false, .cells [.d (.str es), .d (.bool ea), .d (.int .u8 (er : Int)), .d (.int .i64 et), .d ew] 0 false], (rf_fin _ _ _ _ _ _ _ _ _ (by rfl)).trans ?_⟩
      simp only [Int.natCast_zero] at h36c
      simp only [binStr, optNat, ob?, elems, lay, rep, splice, h35, h38, h37, h43, h44, h36, h36c, h38s, h39, hlv, hit, q1, q2, q3, q4, hcz, hctE, hcut, hDS, hds, hdp0, g0, g10, gtt, gaa, g07, a2, Nat.sub_zero, Nat.zero_mul, Nat.zero_add, Nat.zero_le, Nat.le_refl, Nat.one_ne_zero, Option.map_none, Option.map_some, Bool.not_true, List.take, List.drop, List.map_cons, List.map_nil, List.cons_append, List.nil_append, freeze_nil, reachV, reachC, ite_self, List.flatMap_cons, List.flatMap_nil, evs, Nat.reduceAdd, Nat.reduceLeDiff, Nat.reduceBEq, Nat.reduceSub]
    · have a2 : (ct.length : Int) > (tn.length : Int) := by omega
      refine ⟨[.cells [.d (.int .u8 (y.nm : Int)), .d (.bool y.acc), .d (.int .u8 (y.rs : Int)), .d (.int .u8 (y.tt : Int)), .d y.w] 0 false, .cells [.d (.str es), .d (.bool ea), .d (.int .u8 (er : Int)), .d (.int .i64 et), .d ew] 0 false, .cells [.d (.str es), .d (.bool ea), .d (.int .u8 (er : Int)), .d (.int .i64 et), .d ew] 0 false], (rf_fin _ _ _ _ _ _ _ _ _ (by rfl)).trans ?_⟩
      simp only [Int.cast_ofNat_Int] at h36c
      simp only [binStr, optNat, ob?, elems, lay, rep, splice, h35, h38, h37, h43, h44, h36, h36c, h38s, h39, hlv, hit, q1, q2, q3, q4, hcz, hctE, hcut, hDS, hds, hdp0, g0, g10, gtt, gaa, g77, g70, a2, Nat.sub_zero, Nat.zero_mul, Nat.zero_add, Nat.zero_le, Nat.le_refl, Nat.one_ne_zero, Option.map_none, Option.map_some, Bool.not_true, List.take, List.drop, List.map_cons, List.map_nil, List.cons_append, List.nil_append, freeze_nil, reachV, reachC, ite_self, List.flatMap_cons, List.flatMap_nil, evs, Nat.reduceAdd, Nat.reduceLeDiff, Nat.reduceBEq, Nat.reduceSub]
  · clear hEC0
    rcases hg with ⟨a1, rfl⟩ | ⟨a1, rfl⟩
    · have a2 : ¬ (ct.length : Int) > (tn.length : Int) := by omega
      refine ⟨[.cells [.d (.int .u8 (y.nm : Int)), .d (.bool y.acc), .d (.int .u8 (y.rs : Int)), .d (.int .u8 (y.tt : Int)), .d y.w] 0 false, .cells (EC ++ [.d (.str es), .d (.bool ea), .d (.int .u8 (er : Int)), .d (.int .i64 et), .d ew]) 1 false, .cells [.d (.str es), .d (.bool ea), .d (.int .u8 (er : Int)), .d (.int .i64 et), .d ew] 0 false], (rf_fin _ _ _ _ _ _ _ _ _ (by rfl)).trans ?_⟩
      simp only [Int.natCast_zero] at h36c
      simp only [binStr, optNat, ob?, elems, lay, rep, splice, h35, h38, h37, h43, h44, h36, h36c, h38s, h39, hlv, hit, q1, q2, q3, q4, hcz, hctE, hcut, hDS, hds, hdp, hEC, hECl, htkE, hn0, hnL, k1e, k2e, k3e, g0, g10, gtt, gaa, g07, a2, Nat.sub_zero, Nat.zero_add, Nat.zero_le, Nat.le_refl, Nat.one_ne_zero, Option.map_none, Option.map_some, Bool.not_true, List.take, List.drop, List.map_cons, List.map_nil, List.cons_append, List.nil_append, List.set_cons_zero, List.set_cons_succ, freeze_nil, reachV, reachC, ite_self, List.flatMap_cons, List.flatMap_nil, evs, Nat.reduceAdd, Nat.reduceBEq, Nat.reduceSub]
    · have a2 : (ct.length : Int) > (tn.length : Int) := by omega
      refine ⟨[.cells [.d (.int .u8 (y.nm : Int)), .d (.bool y.acc), .d (.int .u8 (y.rs : Int)), .d (.int .u8 (y.tt : Int)), .d y.w] 0 false, .cells (EC ++ [.d (.str es), .d (.bool ea), .d (.int .u8 (er : Int)), .d (.int .i64 et), .d ew]) 1 false, .cells [.d (.str es), .d (.bool ea), .d (.int .u8 (er : Int)), .d (.int .i64 et), .d ew] 0 false], (rf_fin _ _ _ _ _ _ _ _ _ (by rfl)).trans ?_⟩
      simp only [Int.cast_ofNat_Int] at h36c
      simp only [binStr, optNat, ob?, elems, lay, rep, splice, h35, h38, h37, h43, h44, h36, h36c, h38s, h39, hlv, hit, q1, q2, q3, q4, hcz, hctE, hcut, hDS, hds, hdp, hEC, hECl, htkE, hn0, hnL, k1e, k2e, k3e, g0, g10, gtt, gaa, g77, g70, a2, Nat.sub_zero, Nat.zero_add, Nat.zero_le, Nat.le_refl, Nat.one_ne_zero, Option.map_none, Option.map_some, Bool.not_true, List.take, List.drop, List.map_cons, List.map_nil, List.cons_append, List.nil_append, List.set_cons_zero, List.set_cons_succ, freeze_nil, reachV, reachC, ite_self, List.flatMap_cons, List.flatMap_nil, evs, Nat.reduceAdd, Nat.reduceBEq, Nat.reduceSub]
end Mini
end Go.Proofs.YtgjlofpfbhioaaaGreatDoor
