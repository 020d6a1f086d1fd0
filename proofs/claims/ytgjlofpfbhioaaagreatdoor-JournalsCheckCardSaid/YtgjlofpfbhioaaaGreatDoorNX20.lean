/-
  JournalsCheck: texts of the proof, part 21.
-/
import Derived.Test.YtgjlofpfbhioaaaGreatDoorNX19
namespace Go.Proofs.YtgjlofpfbhioaaaGreatDoor
namespace Mini
open Go
variable {m : Int} {X : Ctx}
theorem r120 (hX : XOj m X) {N : Nat} {j : List Nat} {u i : Nat} {HH H2 : Heap} {ok : Bool} (hj : j.length ≤ 1100000) (hu : u + i ≤ j.length) (hi : idxN 10 (j.drop u) = some i) (h4 : HH[4]? = some (.cells [.d (.str j)] 0 false)) (hy : callN X N (.yld 6) [strV ((j.drop u).take i), i64 ((u + i + 1 : Nat) : Int)] HH = some (bl ok, H2)) :
    ∃ r, exec (zenv X N) N false fn120L0 ⟨R120 u, HH⟩ = some (if ok then .nrm else .ret, ⟨r, H2⟩) ∧ (ok = true → keepOnly [0, 1, 2] 0 r = R120 (u + i + 1)) := by
  have hpc := p121 hX (N := N) (s := j.drop u)
  rw [hi] at hpc
  have ho : oInt (some i) = (i : Int) := rfl
  rw [ho] at hpc
  have k1 : ¬ (i : Int) < 0 := by omega
  have k2 : u ≤ j.length := by omega
  have k3 : u ≤ u + i := by omega
  have htk : j.take j.length = j := List.take_length
  have hsl : (j.take (u + i)).drop u = (j.drop u).take i := by rw [List.drop_take, Nat.add_sub_cancel_left]
  have w1 : IntKind.i64.wrap ((u : Int) + (i : Int)) = ((u + i : Nat) : Int) := by rw [← wrap_nat (k := u + i) (by omega)]; simp
  have w2 := wrap_succ (k := u + i) (by omega)
  have w3 := wrap_succ (k := i) (by omega)
  have w4 : IntKind.i64.wrap ((u : Int) + ((i + 1 : Nat) : Int)) = ((u + i + 1 : Nat) : Int) := by rw [← wrap_nat (k := u + i + 1) (by omega)]; congr 1
  generalize (j.drop u).take i = a at *
  simp only [strV, i64, bl] at hy
  cases ok
  · refine ⟨[.c (.yld 6), .c (.ptr 4 0 0), i64 (u : Int), i64 (i : Int), bl true], ?_, fun h => by cases h⟩
    simp only [fn120L0, R120, optNat, hpc, h4, htk, hsl, hy, k1, k2, k3, hu, w1, w2, Option.map_none, Option.map_some, Nat.le_refl, and_self, Bool.not_false, List.drop_zero, List.take, List.map_cons, List.map_nil, freeze_nil, reachV, reachC, ite_self, List.flatMap_cons, List.flatMap_nil, evs]
  · refine ⟨[.c (.yld 6), .c (.ptr 4 0 0), i64 ((u + i + 1 : Nat) : Int), i64 (i : Int), bl false], ?_, fun _ => rfl⟩
    simp only [fn120L0, R120, optNat, hpc, h4, htk, hsl, hy, k1, k2, k3, hu, w1, w2, w3, w4, Option.map_none, Option.map_some, Nat.le_refl, and_self, Bool.not_true, List.drop_zero, List.take, List.map_cons, List.map_nil, freeze_nil, reachV, reachC, ite_self, List.flatMap_cons, List.flatMap_nil, evs]
theorem eC_d (l : List En) : (eC l).all C.isD = true := by
  rw [List.all_eq_true]
  intro c hc
  obtain ⟨d, _, rfl⟩ := List.mem_map.1 hc
  rfl
theorem hp71_tidy {j : List Nat} {l : List En} {u la w : Nat} {t : Heap} {r : List V} (hr : keepOnly [0, 1, 2] 0 r = R120 w) : tidy 7 (some [0, 1, 2]) ⟨r, hp71 j l u la 0 true none ++ t⟩ = ⟨R120 w, hp71 j l u la 0 true none⟩ := by
  show gc 7 ⟨keepOnly [0, 1, 2] 0 r, _⟩ = _
  rw [hr]
  have hu := undersC_d 7 _ (eC_d l)
  refine gc_yes rfl ?_
  simp only [hp71, List.cons_append, List.nil_append, List.take_succ_cons, List.take_zero, List.all_cons, List.all_nil, Ob.under, hu, Bool.and_true, Bool.and_self]
  rfl
theorem idx_le {c : Nat} : ∀ {s : List Nat} {k : Nat}, idxN c s = some k → k < s.length
  | [], _, h => by cases h
  | x :: s, k, h => by
    unfold idxN at h
    split at h
    · cases h; simp
    · split at h
      · rename_i k' h2
        cases h
        have := idx_le h2
        simp only [List.length_cons]; omega
      · cases h
theorem it120 (hX : XOj m X) {N : Nat} {j : List Nat} (hN : j.length + 1000 ≤ N) (hj : j.length < 800000) (hb : ∀ c ∈ j, c < 256) : ∀ (f fuel : Nat) (l : List En) (u la : Nat), (j.drop u).length < f → f ≤ fuel → u ≤ j.length → l.length ≤ 4096 → la < 65521 →
    ∃ r H, iter (some [0, 1, 2]) 7 (exec (zenv X N) N false fn120L0) fuel ⟨R120 u, hp71 j l u la 0 true none⟩ = some (.ret, ⟨r, H⟩) ∧ ∃ t, H = (if (parseJ f l u la (j.drop u)).2.2.2 = 0 then hp71 j (parseJ f l u la (j.drop u)).1 (parseJ f l u la (j.drop u)).2.1 (parseJ f l u la (j.drop u)).2.2.1 0 true none else hp71 j (parseJ f l u la (j.drop u)).1 (parseJ f l u la (j.drop u)).2.1 (parseJ f l u la (j.drop u)).2.2.1 (parseJ f l u la (j.drop u)).2.2.2 false (some .ret)) ++ t := by
  intro f
  induction f with
  | zero => intro fuel l u la h; exact absurd h (Nat.not_lt_zero _)
  | succ f ih =>
    intro fuel l u la hf hfu hu hl hla
    obtain ⟨fuel, rfl⟩ : ∃ k, fuel = k + 1 := ⟨fuel - 1, by omega⟩
    have out : ∀ {s' : St} {st : St}, exec (zenv X N) N false fn120L0 st = some (.ret, s') → iter (some [0, 1, 2]) 7 (exec (zenv X N) N false fn120L0) (fuel + 1) st = some (.ret, s') := by
      intro s' st h
      simp only [iter, h]
    unfold parseJ
    cases hi : idxN 10 (j.drop u) with
    | none =>
      obtain ⟨r, h1⟩ := r120_end hX (N := N) (l := l) (la := la) (by omega) hu hi
      exact ⟨r, _, out h1, [], by simp⟩
    | some i =>
      have hil := idx_le hi
      rw [List.length_drop] at hil hf
      have h4 : (hp71 j l u la 0 true none)[4]? = some (.cells [.d (.str j)] 0 false) := rfl
      have hal : ((j.drop u).take i).length ≤ j.length := by rw [List.length_take, List.length_drop]; omega
      have hab : ∀ c ∈ (j.drop u).take i, c < 256 := fun c hc => hb c (List.mem_of_mem_drop (List.mem_of_mem_take hc))
      obtain ⟨e1, e2, e3, e4, e5⟩ := readE_ok (s := (j.drop u).take i)
      have bad : ∀ {H2 : Heap} (c : Nat), c ≠ 0 → callN X N (.yld 6) [strV ((j.drop u).take i), i64 ((u + i + 1 : Nat) : Int)] (hp71 j l u la 0 true none) = some (bl false, hp71 j l u la c false (some .ret) ++ H2) → ∃ r H, iter (some [0, 1, 2]) 7 (exec (zenv X N) N false fn120L0) (fuel + 1) ⟨R120 u, hp71 j l u la 0 true none⟩ = some (.ret, ⟨r, H⟩) ∧ ∃ t, H = (if c = 0 then hp71 j l u la 0 true none else hp71 j l u la c false (some .ret)) ++ t := by
        intro H2 c hc hy
        obtain ⟨r, h1, _⟩ := r120 hX (N := N) (by omega) (by omega) hi h4 hy
        exact ⟨r, _, out h1, H2, by rw [if_neg hc]⟩
      simp only
      by_cases c1 : l.length = 4096
      · rw [if_pos c1]
        obtain ⟨t, hy⟩ := yl71l hX (N := N) (j := j) (a := (j.drop u).take i) (l := l) (used := u) (last := la) (bh := u + i + 1) (by omega) c1
        exact bad 3 (by omega) hy
      rw [if_neg c1]
      by_cases c2 : (readE ((j.drop u).take i)).2.2 = false
      · rw [if_pos c2]
        obtain ⟨t, hy⟩ := yl71f hX (N := N) (j := j) (a := (j.drop u).take i) (l := l) (used := u) (last := la) (bh := u + i + 1) (e := (readE ((j.drop u).take i)).1) (st := (readE ((j.drop u).take i)).2.1) (by omega) (by omega) (by omega) (by rw [← c2])
        exact bad 6 (by omega) hy
      rw [if_neg c2]
      have hrt : (readE ((j.drop u).take i)).2.2 = true := by simpa using c2
      have hr : readE ((j.drop u).take i) = ((readE ((j.drop u).take i)).1, (readE ((j.drop u).take i)).2.1, true) := by rw [← hrt]
      obtain ⟨k, hk, hka⟩ := e5 hrt
      by_cases c3 : (readE ((j.drop u).take i)).1.chk ≠ 0
      · rw [if_pos c3]
        obtain ⟨t, hy⟩ := yl71c hX (N := N) (j := j) (a := (j.drop u).take i) (l := l) (used := u) (last := la) (bh := u + i + 1) (by omega) (by omega) (by omega) hr e1 e2 (by omega) e3 rfl c3
        exact bad _ c3 hy
      rw [if_neg c3]
      have c3' : (readE ((j.drop u).take i)).1.chk = 0 := Decidable.not_not.1 c3
      have hsm : sumL la ((j.drop u).take i) = sumN la (((j.drop u).take i).take k) := by unfold sumL; rw [hk]; rfl
      rw [hsm]
      by_cases c4 : ((sumN la (((j.drop u).take i).take k) : Nat) : Int) ≠ (readE ((j.drop u).take i)).2.1
      · rw [if_pos c4]
        obtain ⟨t, hy⟩ := yl71s hX (N := N) (j := j) (a := (j.drop u).take i) (l := l) (used := u) (last := la) (bh := u + i + 1) (by omega) (by omega) (by omega) hr e1 e2 (by omega) e3 hab hla c3' hk hka c4
        exact bad 24 (by omega) hy
      rw [if_neg c4]
      obtain ⟨t, hy⟩ := yl71 hX (N := N) (j := j) (a := (j.drop u).take i) (l := l) (used := u) (last := la) (k := k) (bh := u + i + 1) (by omega) (by omega) hab (by omega) hla hr e1 e2 (by omega) e3 c3' hk hka (Decidable.not_not.1 c4)
      obtain ⟨r, h1, h2⟩ := r120 hX (N := N) (by omega) (by omega) hi h4 hy
      have hdd : (j.drop u).drop (i + 1) = j.drop (u + i + 1) := by rw [List.drop_drop]; congr 1
      rw [hdd]
      obtain ⟨r2, H, h3, h5⟩ := ih fuel (l ++ [newE (readE ((j.drop u).take i)).1]) (u + i + 1) (sumN la (((j.drop u).take i).take k)) (by rw [List.length_drop]; omega) (by omega) (by omega) (by rw [List.length_append, List.length_singleton]; omega) (sumN_lt _ hla)
      refine ⟨r2, H, ?_, h5⟩
      rw [iter_step h1, hp71_tidy (h2 rfl)]
      exact h3
end Mini
end Go.Proofs.YtgjlofpfbhioaaaGreatDoor
namespace Go.Proofs.YtgjlofpfbhioaaaGreatDoor
namespace Mini
open Go
variable {m : Int} {X : Ctx}
theorem f98 (hX : XOj m X) {N : Nat} (hN : 1 ≤ N) {j : List Nat} {H : Heap} : callN X N (.d (.fn 98 [] [])) [strV j] H = some (.c (.fn 120 [] [.ptr H.length 0 0]), H ++ [.cells [.d (.str j)] 0 false]) := by
  obtain ⟨N, rfl⟩ : ∃ M, N = M + 1 := ⟨N - 1, by omega⟩
  rw [hX.fn (F := fn98) rfl]
  refine (rf_fin _ _ _ _ _ _ _ _ _ (by rfl)).trans ?_
  simp only [strV, V.one, evs, Nat.reduceSub]
theorem c120 (hX : XOj m X) {N : Nat} {j : List Nat} (hN : j.length + 1010 ≤ N) (hj : j.length < 800000) (hb : ∀ c ∈ j, c < 256) : ∃ H, callN X N fnLj [.c (.yld 6)] (hp71 j [] 0 0 0 true none) = some (.tup [], H) ∧ ∃ t, H = (if (parseJ (j.length + 1) [] 0 0 j).2.2.2 = 0 then hp71 j (parseJ (j.length + 1) [] 0 0 j).1 (parseJ (j.length + 1) [] 0 0 j).2.1 (parseJ (j.length + 1) [] 0 0 j).2.2.1 0 true none else hp71 j (parseJ (j.length + 1) [] 0 0 j).1 (parseJ (j.length + 1) [] 0 0 j).2.1 (parseJ (j.length + 1) [] 0 0 j).2.2.1 (parseJ (j.length + 1) [] 0 0 j).2.2.2 false (some .ret)) ++ t := by
  obtain ⟨N, rfl⟩ : ∃ M, N = M + 1 := ⟨N - 1, by omega⟩
  have hF : fnsX 120 = some fn120' := rfl
  have hcall : callN X (N + 1) fnLj [.c (.yld 6)] (hp71 j [] 0 0 0 true none) = runFn (zenv X N) N fn120' [.c (.yld 6), .c (.ptr 4 0 0)] (hp71 j [] 0 0 0 true none) := callN_fnc (CtxLe.fns (X := XJ m) hX hF)
  obtain ⟨r, H, hit, ht⟩ := it120 hX (N := N) (j := j) (by omega) hj hb (j.length + 1) N [] 0 0 (by rw [List.drop_zero]; omega) (by omega) (Nat.zero_le _) (by simp) (by decide)
  rw [List.drop_zero] at ht
  refine ⟨H, ?_, ht⟩
  rw [hcall]
  have hlen : (hp71 j [] 0 0 0 true none).length = 7 := rfl
  simp only [R120, i64, Int.natCast_zero] at hit
  generalize hp71 j [] 0 0 0 true none = HH at *
  refine (rf_fin _ _ _ _ _ _ _ _ _ (by rfl)).trans ?_
  simp only [hlen, hit, evs, Nat.reduceAdd, Nat.reduceBEq, Nat.reduceSub]
theorem f71 (hX : XOj m X) {N : Nat} {j : List Nat} (hN : j.length + 1100 ≤ N) (hj : j.length < 800000) (hb : ∀ c ∈ j, c < 256) : ∃ H, callN X N (.d (.fn 71 [] [])) [strV j] [] = some (.tup [.c (.os 5 (parseJ (j.length + 1) [] 0 0 j).1.length 0 (parseJ (j.length + 1) [] 0 0 j).1.length 5 none), i64 (parseJ (j.length + 1) [] 0 0 j).2.1, i64 (parseJ (j.length + 1) [] 0 0 j).2.2.1, i64 (parseJ (j.length + 1) [] 0 0 j).2.2.2], H) ∧ H[5]? = some (.cells (eC (parseJ (j.length + 1) [] 0 0 j).1) (parseJ (j.length + 1) [] 0 0 j).1.length false) := by
  obtain ⟨N, rfl⟩ : ∃ M, N = M + 1 := ⟨N - 1, by omega⟩
  have hF : fnsX 71 = some fn71'' := rfl
  obtain ⟨H, hc, t, rfl⟩ := c120 hX (N := N) (j := j) (by omega) hj hb
  have h98 := f98 hX (N := N) (by omega) (j := j) (H := [.cells [.d .nils] 0 false, .cells [.d (.int .i64 0)] 0 false, .cells [.d (.int .i64 0)] 0 false, .cells [.d (.int .i64 0)] 0 false])
  simp only [strV] at h98
  have hfr : exec (zenv X N) N false (.fresh 1 (some 0) 5) ⟨regs71 j, [.cells [.d .nils] 0 false, .cells [.d (.int .i64 0)] 0 false, .cells [.d (.int .i64 0)] 0 false, .cells [.d (.int .i64 0)] 0 false, .cells [.d (.str j)] 0 false]⟩ = some (.nrm, ⟨regs71 j, [.cells [.os 5 0 0 0 5 none] 0 false, .cells [.d (.int .i64 0)] 0 false, .cells [.d (.int .i64 0)] 0 false, .cells [.d (.int .i64 0)] 0 false, .cells [.d (.str j)] 0 false, .cells [] 0 false]⟩) := rfl
  have p10 : apart (.c (.ptr 1 0 0)) (.c (.ptr 0 0 0)) = true := rfl
  have p20 : apart (.c (.ptr 2 0 0)) (.c (.ptr 0 0 0)) = true := rfl
  have p21 : apart (.c (.ptr 2 0 0)) (.c (.ptr 1 0 0)) = true := rfl
  generalize parseJ (j.length + 1) [] 0 0 j = P at *
  obtain ⟨l, u, la, er⟩ := P
  simp only at hc ⊢
  rw [hX.fn hF]
  by_cases h0 : er = 0
  · rw [if_pos h0] at hc
    subst h0
    have hrf := ex_rf (E := zenv X N) (N := N) (f := .r 12) (ps := [13, 14]) (asg := fn71A) (body := fn71B) (regs := regs71 j) (H := [.cells [.os 5 0 0 0 5 none] 0 false, .cells [.d (.int .i64 0)] 0 false, .cells [.d (.int .i64 0)] 0 false, .cells [.d (.int .i64 0)] 0 false, .cells [.d (.str j)] 0 false, .cells [] 0 false]) (x := fnLj) rfl rfl hc rfl
    unfold hp71 at hrf
    generalize eC l = ec at *
    generalize l.length = n at *
    refine ⟨[.cells [.os 5 n 0 n 5 none] 0 false, .cells [.d (.int .i64 (u : Int))] 0 false, .cells [.d (.int .i64 (la : Int))] 0 false, .cells [.d (.int .i64 0)] 0 false, .cells [.d (.str j)] 0 false, .cells ec n false, .dead] ++ t, ?_, rfl⟩
    refine (rf_fin _ _ _ _ _ _ _ _ _ (by rfl)).trans ?_
    simp only [strV, regs71, List.length_cons, List.length_nil, Nat.reduceAdd, List.cons_append, List.nil_append, List.set_cons_zero, List.set_cons_succ, Int.natCast_zero] at hrf hfr
    simp only [ob?, strV, splice, rg_ap, p10, p20, p21, h98, hfr, hrf, Int.natCast_zero, List.take, List.drop, List.map_cons, List.map_nil, List.set_cons_zero, List.set_cons_succ, evs, Nat.reduceAdd, Nat.reduceLeDiff, Nat.reduceSub]
  · rw [if_neg h0] at hc
    have hrf := ex_rf_out (E := zenv X N) (N := N) (f := .r 12) (ps := [13, 14]) (asg := fn71A) (body := fn71B) (regs := regs71 j) (H := [.cells [.os 5 0 0 0 5 none] 0 false, .cells [.d (.int .i64 0)] 0 false, .cells [.d (.int .i64 0)] 0 false, .cells [.d (.int .i64 0)] 0 false, .cells [.d (.str j)] 0 false, .cells [] 0 false]) (x := fnLj) (e := .ret) rfl rfl hc rfl
    unfold hp71 at hrf
    generalize eC l = ec at *
    generalize l.length = n at *
    refine ⟨[.cells [.os 5 n 0 n 5 none] 0 false, .cells [.d (.int .i64 (u : Int))] 0 false, .cells [.d (.int .i64 (la : Int))] 0 false, .cells [.d (.int .i64 (er : Int))] 0 false, .cells [.d (.str j)] 0 false, .cells ec n false, .dead] ++ t, ?_, rfl⟩
    refine (rf_fin _ _ _ _ _ _ _ _ _ (by rfl)).trans ?_
    simp only [strV, regs71, List.length_cons, List.length_nil, Nat.reduceAdd, List.cons_append, List.nil_append, List.set_cons_zero, List.set_cons_succ] at hrf hfr
    simp only [ob?, strV, h98, hfr, hrf, List.take, List.drop, List.map_cons, List.map_nil, evs, Nat.reduceAdd, Nat.reduceSub]
end Mini
end Go.Proofs.YtgjlofpfbhioaaaGreatDoor
namespace Go.Proofs.YtgjlofpfbhioaaaGreatDoor
namespace Mini
open Go
variable {m : Int} {X : Ctx}
abbrev pJ (j : List Nat) : List En × Nat × Nat × Nat := parseJ (j.length + 1) [] 0 0 j
end Mini
end Go.Proofs.YtgjlofpfbhioaaaGreatDoor
namespace Go.Proofs.YtgjlofpfbhioaaaGreatDoor
namespace Mini
open Go
variable {m : Int} {X : Ctx}
theorem deep_en {H : Heap} {id g n : Nat} {l : List En} {f : Bool} {c : Option Nat} (hH : H[id]? = some (.cells (eC l) g f)) (hn : l.length = n) : deepC H deepMax (.os id g 0 n 5 c) = some (.sl (l.flatMap En.ds) n) := by
  have hal := eC_len l
  have p2 : ((eC l).drop 0).take (n * 5) = (l.flatMap En.ds).map .d := by
    rw [List.drop_zero, List.take_of_length_le (by omega)]; rfl
  have p1 : 0 + n * 5 ≤ (eC l).length := by omega
  simp only [deepMax, deepC, ob_eq, hH, if_true, if_pos p1, p2, mapO_d, Option.map_some]
theorem v71 (hX : XOj m X) {N : Nat} {j : List Nat} (hN : j.length + 1100 ≤ N) (hj : j.length < 800000) (hb : ∀ c ∈ j, c < 256) : (zenv X N).vcall 71 [strV j] = some (.tup [.c (.d (.sl ((pJ j).1.flatMap En.ds) (pJ j).1.length)), i64 (pJ j).2.1, i64 (pJ j).2.2.1, i64 (pJ j).2.2.2]) := by
  obtain ⟨H, h71, h5⟩ := f71 hX hN hj hb
  have hdp := deep_en (c := none) h5 rfl
  refine hX.vc (k := 71) (F := fn71) rfl (vcall_of h71 ?_)
  simp only [deepV, mapO, deepV1, hdp, Option.map_some, i64]
  rfl
theorem f36 (hX : XOj m X) {N : Nat} {j : List Nat} {e : En} {la : Nat} {l : List En} (hN : j.length + 100000 ≤ N) (hj : j.length < 800000) (hb : ∀ c ∈ j, c < 256) (hp : pJ j = (l, j.length, la, 0)) (hl : l.length < 4096) (hla : la < 65521) (hw : isSet e.w e.l) (hwl : wfS e.l) (hel : e.l.length < 1000000) (hes : e.s.length ≤ 100) (hc : e.chk = 0) (hlen : (j ++ lineE la e).length ≤ 1048576) : vcallN X N 36 [strV j, .agg (e.ds.map .d)] = some (.tup [strV (j ++ lineE la e), i64 0]) := by
  obtain ⟨N, rfl⟩ : ∃ M, N = M + 1 := ⟨N - 1, by omega⟩
  have hF : fnsX 36 = some fn36' := rfl
  have h71 := v71 hX (N := N) (j := j) (by omega) hj hb
  rw [hp] at h71
  obtain ⟨b1, b2⟩ := body_ok hc
  have h48 := hX.vc (k := 48) (F := fn48) rfl (f48 hX (N := N) (s := e.s) (acc := e.acc) (r := e.r) (t := e.t) (w := e.w) (l := e.l) (by omega) (by omega) hw hwl hel)
  have hc' : chkE e.s e.acc e.r e.t e.l = 0 := hc
  rw [hc'] at h48
  have h72 := hX.vc (k := 72) (F := fn72) rfl (f72 hX (N := N) (by omega) hw hwl hc')
  have hbd : bodyE e.s e.acc e.r e.t e.l = e.body := rfl
  rw [hbd] at h72
  have h74 := hX.vc (k := 74) (F := fn74) rfl (f74 hX (N := N) (s := e.body) (a := la) (by omega) hla b1 (by omega))
  have hsl := sumN_lt e.body hla
  have h73 : (zenv X N).prim 73 [.c (.d (.int .i64 ((sumN la e.body : Nat) : Int)))] = some (.c (.d (.str (decN (sumN la e.body))))) := by
    rw [zenv_pr]
    refine hX.prim ?_
    show (if -9223372036854775808 ≤ ((sumN la e.body : Nat) : Int) ∧ ((sumN la e.body : Nat) : Int) ≤ 9223372036854775807 then some (Str (itoaN ((sumN la e.body : Nat) : Int))) else none) = _
    rw [if_pos ⟨by omega, by omega⟩, itoaN, if_neg (by omega), Int.toNat_natCast]
  have hdl := (decF_len 20 (sumN la e.body)).1
  have hj1 : ¬ (j.length : Int) > 1048576 := by omega
  have hj2 : ¬ (j.length : Int) < (j.length : Int) := by omega
  have g0 : ((0 : Int) != 0) = false := rfl
  have g1 : ((l.length : Int) == 4096) = false := by rw [beq_eq_false_iff_ne]; omega
  have hout : j ++ lineE la e = j ++ e.body ++ [32] ++ decN (sumN la e.body) ++ [10] := by simp only [lineE, List.append_assoc]
  rw [hout] at hlen ⊢
  have k1 : j.length + e.body.length ≤ 1073741824 := by omega
  have k2 : j.length + e.body.length + 1 ≤ 1073741824 := by omega
  have k3 : j.length + e.body.length + 1 + (decN (sumN la e.body)).length ≤ 1073741824 := by unfold decN; omega
  have k4 : j.length + e.body.length + 1 + (decN (sumN la e.body)).length + 1 ≤ 1073741824 := by unfold decN; omega
  have k5 : ¬ ((j.length + e.body.length + 1 + (decN (sumN la e.body)).length + 1 : Nat) : Int) > 1048576 := by
    simp only [List.length_append, List.length_cons, List.length_nil] at hlen
    omega
  generalize decN (sumN la e.body) = dn at *
  generalize sumN la e.body = sm at *
  generalize e.body = bo at *
  generalize l.flatMap En.ds = ds at *
  simp only [strV, i64, enC, Int.natCast_zero] at h71 h48 h72 h74
  simp only [En.ds, List.map_cons, List.map_nil]
  refine vcall_of (r := .tup [strV (j ++ bo ++ [32] ++ dn ++ [10]), i64 0]) (H := [.cells [.d (.str e.s), .d (.bool e.acc), .d (.int .u8 (e.r : Int)), .d (.int .i64 e.t), .d e.w] 0 false]) ?_ rfl
  rw [hX.fn hF]
  refine (rf_fin _ _ _ _ _ _ _ _ _ (by rfl)).trans ?_
  simp only [ob?, strV, binStr, h71, h48, h72, h73, h74, hj1, hj2, g0, g1, k1, k2, k3, k4, k5, List.length_append, List.take, List.drop, List.map_cons, List.map_nil, freeze_nil, reachV, reachC, ite_self, List.flatMap_cons, List.flatMap_nil, ↓sp_len, evs, Nat.reduceAdd, Nat.reduceSub]
end Mini
end Go.Proofs.YtgjlofpfbhioaaaGreatDoor
namespace Go.Proofs.YtgjlofpfbhioaaaGreatDoor
namespace Mini
open Go
variable {m : Int} {X : Ctx}
theorem strLess_irr : ∀ a : List Nat, strLess a a = false
  | [] => rfl
  | c :: a => by simp [strLess, strLess_irr a]
theorem strLess_tri : ∀ {a b : List Nat}, strLess a b = false → strLess b a = false → a = b
  | [], [], _, _ => rfl
  | [], _ :: _, h, _ => by simp [strLess] at h
  | _ :: _, [], _, h => by simp [strLess] at h
  | c :: a, d :: b, h1, h2 => by
    simp only [strLess, Bool.or_eq_false_iff, decide_eq_false_iff_not, Bool.and_eq_false_iff, beq_eq_false_iff_ne, ne_eq] at h1 h2
    have hcd : c = d := by omega
    subst hcd
    rw [strLess_tri (h1.2.resolve_left fun h => h rfl) (h2.2.resolve_left fun h => h rfl)]
theorem strLess_trans : ∀ {a b c : List Nat}, strLess a b = true → strLess b c = true → strLess a c = true
  | _, [], _, h, _ => by simp [strLess] at h
  | _, _ :: _, [], _, h => by simp [strLess] at h
  | [], _ :: _, _ :: _, _, _ => rfl
  | x :: a, y :: b, z :: c, h1, h2 => by
    simp only [strLess, Bool.or_eq_true, decide_eq_true_eq, Bool.and_eq_true, beq_iff_eq] at h1 h2 ⊢
    rcases h1 with h1 | ⟨rfl, h1⟩ <;> rcases h2 with h2 | ⟨rfl, h2⟩
    · exact .inl (by omega)
    · exact .inl h1
    · exact .inl h2
    · exact .inr ⟨rfl, strLess_trans h1 h2⟩
def cmpS (a b : List Nat) : Int := if strLess a b then -1 else if strLess b a then 1 else 0
theorem cmpS_neg (a b : List Nat) : decide (cmpS a b < 0) = strLess a b := by
  unfold cmpS
  cases strLess a b with
  | true => rfl
  | false => cases strLess b a <;> rfl
theorem f106 (hX : XOr m X) {N : Nat} (hN : 1 ≤ N) (s : List Nat) : vcallN X N 106 [strV s] = some (bl false) := by
  obtain ⟨N, rfl⟩ : ∃ M, N = M + 1 := ⟨N - 1, by omega⟩
  refine vcall_of (r := bl false) (H := []) ?_ rfl
  rw [hX.fn (F := fn106') rfl]
  refine (rf_fin _ _ _ _ _ _ _ _ _ (by rfl)).trans ?_
  simp only [strV, binStr, beq_self_eq_true, Bool.not_true, evs, Nat.reduceSub]
theorem f82 (hX : XOr m X) {N : Nat} (hN : 10 ≤ N) (a b : List Nat) : vcallN X N 82 [strV a, strV b] = some (i64 (cmpS a b)) := by
  obtain ⟨N, rfl⟩ : ∃ M, N = M + 1 := ⟨N - 1, by omega⟩
  have h1 : ∀ s, (zenv X N).vcall 106 [strV s] = some (bl false) := fun s => hX.vc (k := 106) (F := fn106) rfl (f106 hX (by omega) s)
  simp only [strV, bl] at h1
  refine vcall_of (r := i64 (cmpS a b)) (H := []) ?_ rfl
  rw [hX.fn (F := fn82') rfl]
  refine (rf_fin _ _ _ _ _ _ _ _ _ (by rfl)).trans ?_
  unfold cmpS
  cases c1 : strLess a b with
  | true => simp only [strV, binStr, h1, c1, evs]
  | false =>
    cases c2 : strLess b a with
    | true =>
      have c3 : (a == b) = false := by
        rw [beq_eq_false_iff_ne]
        rintro rfl
        rw [strLess_irr] at c2
        cases c2
      simp only [strV, binStr, h1, c1, c3, Bool.or_self, Bool.not_false, evs]
    | false =>
      have c3 : (a == b) = true := by rw [beq_iff_eq]; exact strLess_tri c1 c2
      simp only [strV, binStr, h1, c1, c3, Bool.or_true, Bool.not_true, evs]
theorem nx1 {α : Type} (H : List α) (a b : α) : (H ++ [a, b])[H.length]? = some a := by
  rw [List.getElem?_append_right (Nat.le_refl _), Nat.sub_self]; rfl
theorem nx2 {α : Type} (H : List α) (a b : α) : (H ++ [a, b])[H.length + 1]? = some b := by
  rw [List.getElem?_append_right (by omega), show H.length + 1 - H.length = 1 by omega]; rfl
theorem c81 (hX : XOr m X) {N : Nat} (hN : 20 ≤ N) (a b : En) (H : Heap) : callN X N (.d (.fn 81 [] [])) [.agg (a.ds.map .d), .agg (b.ds.map .d)] H = some (i64 (cmpS a.s b.s), H ++ [.cells (a.ds.map .d) 0 false, .cells (b.ds.map .d) 0 false]) := by
  obtain ⟨N, rfl⟩ : ∃ M, N = M + 1 := ⟨N - 1, by omega⟩
  have h1 : (zenv X N).vcall 82 [strV a.s, strV b.s] = some (i64 (cmpS a.s b.s)) := hX.vc (k := 82) (F := fn82) rfl (f82 hX (by omega) a.s b.s)
  simp only [strV, i64] at h1
  rw [hX.fn (F := fn81') rfl]
  refine (rf_fin _ _ _ _ _ _ _ _ _ (by rfl)).trans ?_
  have n1 := nx1 H (.cells (a.ds.map .d) 0 false) (.cells (b.ds.map .d) 0 false)
  have n2 := nx2 H (.cells (a.ds.map .d) 0 false) (.cells (b.ds.map .d) 0 false)
  simp only [En.ds, List.map_cons, List.map_nil] at n1 n2 ⊢
  simp only [h1, n1, n2, List.append_assoc, List.length_append, List.take, List.drop, evs, Nat.reduceAdd, Nat.reduceSub]
end Mini
end Go.Proofs.YtgjlofpfbhioaaaGreatDoor
namespace Go.Proofs.YtgjlofpfbhioaaaGreatDoor
namespace Mini
open Go
variable {m : Int} {X : Ctx}
theorem eC_split (p q : List En) (e : En) : eC (p ++ e :: q) = eC p ++ (e.ds.map .d ++ eC q) := by simp [eC]
theorem ds_len (e : En) : (e.ds.map C.d).length = 5 := rfl
theorem eC_at (p q : List En) (e : En) {k : Nat} (hk : p.length = k) : ((eC (p ++ e :: q)).drop (k * 5)).take 5 = e.ds.map .d := by
  subst hk
  rw [eC_split, ← eC_len, List.drop_left, List.take_append_of_le_length (Nat.le_of_eq (ds_len e).symm), List.take_of_length_le (Nat.le_of_eq (ds_len e))]
theorem eC_set (p q : List En) (e e' : En) {k : Nat} (hk : p.length = k) : splice (eC (p ++ e :: q)) (k * 5) (e'.ds.map .d) = eC (p ++ e' :: q) := by
  subst hk
  unfold splice
  rw [eC_split, eC_split, ← eC_len, List.take_left, ← List.drop_drop, List.drop_left, ds_len, ← ds_len e, List.drop_left, List.append_assoc]
abbrev cmpV : V := .c (.d (.fn 81 [] []))
theorem r125 (hX : XOr m X) {N : Nat} (hN : 20 ≤ N) {G : Heap} {id n i : Nat} {cap : Option Nat} {a q : List En} {x y : En} (hG : G[id]? = some (.cells (eC (a ++ [y] ++ x :: q)) 0 false)) (hn : (a ++ [y] ++ x :: q).length = n) (hn2 : n < 1000000) (hs : strLess x.s y.s = true) :
    exec (zenv X N) N false fn125L0 ⟨[.c (.os id 0 0 n 5 cap), i64 0, i64 (n : Int), cmpV, i64 (i : Int), i64 ((a.length + 1 : Nat) : Int), .any, .any], G⟩ =
      some (.nrm, ⟨[.c (.os id 0 0 n 5 cap), i64 0, i64 (n : Int), cmpV, i64 (i : Int), i64 (a.length : Int), .any, bl true], G.set id (.cells (eC (a ++ x :: y :: q)) 0 false) ++ [.cells (x.ds.map .d) 0 false, .cells (y.ds.map .d) 0 false]⟩) := by
  have hid : id < G.length := by
    rcases Nat.lt_or_ge id G.length with h | h
    · exact h
    · rw [List.getElem?_eq_none h] at hG; cases hG
  have hc := c81 hX hN x y G
  have hneg := cmpS_neg x.s y.s
  rw [hs] at hneg
  generalize hu : Ob.cells (x.ds.map .d) 0 false = u at hc ⊢
  generalize hv : Ob.cells (y.ds.map .d) 0 false = v at hc ⊢
  have hG1 : (G ++ [u, v])[id]? = some (.cells (eC (a ++ [y] ++ x :: q)) 0 false) := by rw [List.getElem?_append_left hid]; exact hG
  have hset : ∀ o, (G ++ [u, v]).set id o = G.set id o ++ [u, v] := fun o => by rw [List.set_append_left _ _ hid]
  have hget : ∀ o, (G.set id o ++ [u, v])[id]? = some o := fun o => by rw [List.getElem?_append_left (by rw [List.length_set]; exact hid), List.getElem?_set_self hid]
  have hss : ∀ o o', (G.set id o ++ [u, v]).set id o' = G.set id o' ++ [u, v] := fun o o' => by rw [List.set_append_left _ _ (by rw [List.length_set]; exact hid), List.set_set]
  have e1 : a ++ [y] ++ x :: q = a ++ y :: (x :: q) := by simp
  have hlen : (a ++ [y]).length = a.length + 1 := by simp
  have a1 := eC_at (a ++ [y]) q x hlen
  have a2 := eC_at a (x :: q) y rfl
  rw [← e1] at a2
  have s1 := eC_set (a ++ [y]) q x y hlen
  have s2 := eC_set a (y :: q) y x rfl
  have e2 : a ++ y :: (y :: q) = a ++ [y] ++ y :: q := by simp
  rw [e2] at s2
  have l1 : (eC (a ++ [y] ++ x :: q)).length = n * 5 := by rw [eC_len, hn]
  have l2 : (eC (a ++ [y] ++ y :: q)).length = n * 5 := by rw [eC_len, ← hn]; simp
  have hnn : a.length + 1 < n := by rw [← hn]; simp
  have k1 : (a.length + 1) * 5 + 5 ≤ n * 5 := by omega
  have k2 : a.length * 5 + 5 ≤ n * 5 := by omega
  have k3 : a.length < n := by omega
  have w1 : IntKind.i64.wrap (((a.length + 1 : Nat) : Int) - 1) = (a.length : Int) := by rw [show ((a.length + 1 : Nat) : Int) - 1 = ((a.length : Nat) : Int) by omega]; exact wrap_nat (by omega)
  have g0 : ((a.length + 1 : Nat) : Int) > 0 := by omega
  generalize a.length = k at *
  generalize eC (a ++ [y] ++ x :: q) = c0 at *
  generalize eC (a ++ [y] ++ y :: q) = c1 at *
  generalize eC (a ++ x :: y :: q) = c2 at *
  obtain ⟨xs, xa, xr, xt, xw, xl⟩ := x
  obtain ⟨ys, ya, yr, yt, yw, yl⟩ := y
  simp only [En.ds, List.map_cons, List.map_nil, i64] at *
  simp only [fn125L0, hG, hG1, hc, hset, hget, hss, a1, a2, s1, s2, l1, l2, hnn, k1, k2, k3, w1, g0, hneg, List.map_cons, List.map_nil, ↓sp_ixa, evs, Nat.reduceAdd]
end Mini
end Go.Proofs.YtgjlofpfbhioaaaGreatDoor
namespace Go.Proofs.YtgjlofpfbhioaaaGreatDoor
namespace Mini
open Go
variable {m : Int} {X : Ctx}
theorem r125x (hX : XOr m X) {N : Nat} (hN : 20 ≤ N) {G : Heap} {id n i : Nat} {cap : Option Nat} {a q : List En} {x y : En} (hG : G[id]? = some (.cells (eC (a ++ [y] ++ x :: q)) 0 false)) (hn : (a ++ [y] ++ x :: q).length = n) (hn2 : n < 1000000) (hs : strLess x.s y.s = false) :
    exec (zenv X N) N false fn125L0 ⟨[.c (.os id 0 0 n 5 cap), i64 0, i64 (n : Int), cmpV, i64 (i : Int), i64 ((a.length + 1 : Nat) : Int), .any, .any], G⟩ =
      some (.exit 2, ⟨[.c (.os id 0 0 n 5 cap), i64 0, i64 (n : Int), cmpV, i64 (i : Int), i64 ((a.length + 1 : Nat) : Int), .any, bl false], G ++ [.cells (x.ds.map .d) 0 false, .cells (y.ds.map .d) 0 false]⟩) := by
  have hc := c81 hX hN x y G
  have hneg := cmpS_neg x.s y.s
  rw [hs] at hneg
  generalize hu : Ob.cells (x.ds.map .d) 0 false = u at hc ⊢
  generalize hv : Ob.cells (y.ds.map .d) 0 false = v at hc ⊢
  have e1 : a ++ [y] ++ x :: q = a ++ y :: (x :: q) := by simp
  have hlen : (a ++ [y]).length = a.length + 1 := by simp
  have a1 := eC_at (a ++ [y]) q x hlen
  have a2 := eC_at a (x :: q) y rfl
  rw [← e1] at a2
  have l1 : (eC (a ++ [y] ++ x :: q)).length = n * 5 := by rw [eC_len, hn]
  have hnn : a.length + 1 < n := by rw [← hn]; simp
  have k1 : (a.length + 1) * 5 + 5 ≤ n * 5 := by omega
  have k2 : a.length * 5 + 5 ≤ n * 5 := by omega
  have k3 : a.length < n := by omega
  have w1 : IntKind.i64.wrap (((a.length + 1 : Nat) : Int) - 1) = (a.length : Int) := by rw [show ((a.length + 1 : Nat) : Int) - 1 = ((a.length : Nat) : Int) by omega]; exact wrap_nat (by omega)
  have g0 : ((a.length + 1 : Nat) : Int) > 0 := by omega
  generalize a.length = k at *
  generalize eC (a ++ [y] ++ x :: q) = c0 at *
  obtain ⟨xs, xa, xr, xt, xw, xl⟩ := x
  obtain ⟨ys, ya, yr, yt, yw, yl⟩ := y
  simp only [En.ds, List.map_cons, List.map_nil, i64] at *
  simp only [fn125L0, hG, hc, a1, a2, hnn, k3, w1, g0, hneg, List.map_cons, List.map_nil, ↓sp_ixa, evs, Nat.reduceAdd]
theorem r125z {N : Nat} {G : Heap} {id n i : Nat} {cap : Option Nat} :
    exec (zenv X N) N false fn125L0 ⟨[.c (.os id 0 0 n 5 cap), i64 0, i64 (n : Int), cmpV, i64 (i : Int), i64 0, .any, .any], G⟩ =
      some (.exit 2, ⟨[.c (.os id 0 0 n 5 cap), i64 0, i64 (n : Int), cmpV, i64 (i : Int), i64 0, .any, bl false], G⟩) := by
  simp only [fn125L0, evs]
theorem set_get {H : Heap} {id : Nat} (h : id < H.length) (o : Ob) : (H.set id o)[id]? = some o := List.getElem?_set_self h
theorem Hp.eset {n id : Nat} {H : Heap} (h : Hp n H) (l : List En) {g : Nat} {f : Bool} : Hp n (H.set id (.cells (eC l) g f)) := h.set (eC_u n l)
theorem it125 (hX : XOr m X) {N : Nat} (hN : 20 ≤ N) {H : Heap} {id n i : Nat} {cap : Option Nat} (hid : id < H.length) (hH : Hp H.length H) {x : En} {rest : List En} (hn2 : n < 1000000) : ∀ (k : Nat) (a c : List En) (fuel : Nat), a.length = k → (a ++ x :: (c ++ rest)).length = n → k < fuel →
    ∃ a1 d v t, a = a1 ++ d ∧ (∀ y ∈ d, strLess x.s y.s = true) ∧ (a1 = [] ∨ ∃ a2 y, a1 = a2 ++ [y] ∧ strLess x.s y.s = false) ∧
      iter (some [0, 1, 2, 3, 4, 5]) H.length (exec (zenv X N) N false fn125L0) fuel ⟨[.c (.os id 0 0 n 5 cap), i64 0, i64 (n : Int), cmpV, i64 (i : Int), i64 (k : Int), .any, .any], H.set id (.cells (eC (a ++ x :: (c ++ rest))) 0 false)⟩ =
        some (.exit 2, ⟨[.c (.os id 0 0 n 5 cap), i64 0, i64 (n : Int), cmpV, i64 (i : Int), v, .any, bl false], H.set id (.cells (eC (a1 ++ x :: (d ++ (c ++ rest)))) 0 false) ++ t⟩)
  | 0, a, c, fuel + 1, hk, hn, _ => by
    have ha : a = [] := List.length_eq_zero_iff.1 hk
    subst ha
    refine ⟨[], [], i64 0, [], rfl, fun y hy => (by cases hy), .inl rfl, ?_⟩
    rw [List.append_nil]
    exact iter_stop r125z
  | k + 1, a, c, fuel + 1, hk, hn, hf => by
    rcases List.eq_nil_or_concat a with rfl | ⟨a', y, rfl⟩
    · cases hk
    · rw [List.concat_eq_append] at *
      have hk' : a'.length = k := by simpa using hk
      have e1 : (a' ++ [y] ++ x :: (c ++ rest)) = a' ++ y :: x :: (c ++ rest) := by simp
      cases hs : strLess x.s y.s with
      | true =>
        have hr := r125 hX hN (G := H.set id (.cells (eC (a' ++ [y] ++ x :: (c ++ rest))) 0 false)) (i := i) (cap := cap) (set_get hid _) hn hn2 hs
        rw [hk', List.set_set] at hr
        rw [iter_step hr]
        have htd : tidy H.length (some [0, 1, 2, 3, 4, 5]) ⟨[.c (.os id 0 0 n 5 cap), i64 0, i64 (n : Int), cmpV, i64 (i : Int), i64 (k : Int), .any, bl true], H.set id (.cells (eC (a' ++ x :: y :: (c ++ rest))) 0 false) ++ [.cells (x.ds.map .d) 0 false, .cells (y.ds.map .d) 0 false]⟩ = ⟨[.c (.os id 0 0 n 5 cap), i64 0, i64 (n : Int), cmpV, i64 (i : Int), i64 (k : Int), .any, .any], H.set id (.cells (eC (a' ++ x :: y :: (c ++ rest))) 0 false)⟩ := by
          refine gc_back _ (by rw [List.length_set]) ?_ (by rw [List.length_set]; exact hH.eset _)
          have : decide (id < (H.set id (.cells (eC (a' ++ x :: y :: (c ++ rest))) 0 false)).length) = true := decide_eq_true (by rw [List.length_set]; exact hid)
          simp only [keepOnly, List.all_cons, List.all_nil, V.under, C.under, this, Bool.and_self, List.contains_cons, List.contains_nil, Nat.reduceBEq, Nat.reduceAdd, Bool.or_false, Bool.or_true, i64, if_true, Bool.false_eq_true, if_false, beq_self_eq_true]
        rw [htd]
        obtain ⟨a1, d, v, t, h1, h2, h3, h4⟩ := it125 hX hN hid hH hn2 (x := x) (rest := rest) (i := i) (cap := cap) k a' (y :: c) fuel hk' (by rw [← hn, e1]; simp) (by omega)
        refine ⟨a1, d ++ [y], v, t, by rw [h1, List.append_assoc], ?_, h3, ?_⟩
        · intro z hz
          rcases List.mem_append.1 hz with h | h
          · exact h2 z h
          · rw [List.mem_singleton.1 h]; exact hs
        · rw [List.append_assoc]
          exact h4
      | false =>
        have hr := r125x hX hN (G := H.set id (.cells (eC (a' ++ [y] ++ x :: (c ++ rest))) 0 false)) (i := i) (cap := cap) (set_get hid _) hn hn2 hs
        rw [hk'] at hr
        exact ⟨a' ++ [y], [], _, _, (List.append_nil _).symm, fun z hz => (by cases hz), .inr ⟨a', y, rfl, hs⟩, iter_stop hr⟩
end Mini
end Go.Proofs.YtgjlofpfbhioaaaGreatDoor
namespace Go.Proofs.YtgjlofpfbhioaaaGreatDoor
namespace Mini
open Go
variable {m : Int} {X : Ctx}
theorem ro125 (hX : XOr m X) {N : Nat} (hN : 20 ≤ N) {H : Heap} {id n i : Nat} {cap : Option Nat} (hid : id < H.length) (hH : Hp H.length H) {a rest : List En} {x : En} (hn2 : n < 1000000) (hnN : n < N) (ha : a.length = i) (hn : (a ++ x :: rest).length = n) :
    ∃ a1 d v t, a = a1 ++ d ∧ (∀ y ∈ d, strLess x.s y.s = true) ∧ (a1 = [] ∨ ∃ a2 y, a1 = a2 ++ [y] ∧ strLess x.s y.s = false) ∧
      exec (zenv X N) N false fn125L1 ⟨[.c (.os id 0 0 n 5 cap), i64 0, i64 (n : Int), cmpV, i64 (i : Int), .any, .any, .any], H.set id (.cells (eC (a ++ x :: rest)) 0 false)⟩ =
        some (.nrm, ⟨[.c (.os id 0 0 n 5 cap), i64 0, i64 (n : Int), cmpV, i64 ((i + 1 : Nat) : Int), v, .any, bl false], H.set id (.cells (eC (a1 ++ x :: (d ++ rest))) 0 false) ++ t⟩) := by
  have hi : i < n := by rw [← hn, ← ha]; simp
  obtain ⟨a1, d, v, t, h1, h2, h3, h4⟩ := it125 hX hN hid hH hn2 (i := i) (cap := cap) (x := x) (rest := rest) i a [] N ha hn (by omega)
  rw [List.nil_append] at h4
  refine ⟨a1, d, v, t, h1, h2, h3, ?_⟩
  have hlt : (i : Int) < (n : Int) := by omega
  have hw := wrap_succ (k := i) (by omega)
  generalize eC (a ++ x :: rest) = c0 at *
  generalize eC (a1 ++ x :: (d ++ rest)) = c1 at *
  simp only [i64, bl, cmpV] at h4 ⊢
  simp only [fn125L1, hlt, hw, h4, List.length_set, evs, Nat.reduceAdd, Nat.reduceBEq]
abbrev Asc3 (l : List En) : Prop := l.Pairwise fun a b => strLess a.s b.s = true
theorem asc_ins {a1 d : List En} {x : En} (h : Asc3 (a1 ++ d)) (h2 : ∀ y ∈ d, strLess x.s y.s = true) (h3 : a1 = [] ∨ ∃ a2 y, a1 = a2 ++ [y] ∧ strLess x.s y.s = false) (hne : ∀ y ∈ a1, y.s ≠ x.s) : Asc3 (a1 ++ x :: d) := by
  obtain ⟨p1, p2, p3⟩ := List.pairwise_append.1 h
  refine List.pairwise_append.2 ⟨p1, List.pairwise_cons.2 ⟨h2, p2⟩, ?_⟩
  intro y hy z hz
  rcases List.mem_cons.1 hz with rfl | hz
  · rcases h3 with rfl | ⟨a2, q, rfl, hq⟩
    · cases hy
    · have hqz : strLess q.s z.s = true := by
        cases hc : strLess q.s z.s with
        | true => rfl
        | false => exact absurd (strLess_tri hc hq) (hne q (by simp))
      rcases List.mem_append.1 hy with h | h
      · exact strLess_trans ((List.pairwise_append.1 p1).2.2 y h q (by simp)) hqz
      · rw [List.mem_singleton.1 h]; exact hqz
  · exact p3 y hy z hz
theorem c125 (hX : XOr m X) {N : Nat} (hN : 2000 ≤ N) {H : Heap} {id n : Nat} {cap : Option Nat} (hH : Hp H.length H) {g0 : List En} (h0 : H[id]? = some (.cells (eC g0) 0 false)) (hlen : g0.length = n) (hn2 : n < 1000) (hnd : (g0.map En.s).Nodup) :
    ∃ g1, g1.Perm g0 ∧ Asc3 g1 ∧ callN X N (.d (.fn 125 [] [])) [.c (.os id 0 0 n 5 cap), i64 0, i64 (n : Int), cmpV] H = some (.tup [], H.set id (.cells (eC g1) 0 false)) := by
  obtain ⟨N, rfl⟩ : ∃ M, N = M + 1 := ⟨N - 1, by omega⟩
  have hid : id < H.length := by
    rcases Nat.lt_or_ge id H.length with h | h
    · exact h
    · rw [List.getElem?_eq_none h] at h0; cases h0
  have hset : H.set id (.cells (eC g0) 0 false) = H := by
    apply List.ext_getElem?
    intro j
    by_cases hj : id = j
    · subst hj; rw [List.getElem?_set_self hid, h0]
    · rw [List.getElem?_set_ne hj]
  let P : Nat → St → Prop := fun i s => ∃ g, s = ⟨[.c (.os id 0 0 n 5 cap), i64 0, i64 (n : Int), cmpV, i64 (i : Int), .any, .any, .any], H.set id (.cells (eC g) 0 false)⟩ ∧ g.Perm g0 ∧ Asc3 (g.take i)
  have hit := iter_inv (js := some [0, 1, 2, 3, 4]) (hl := H.length) (body := exec (zenv X N) N false fn125L1) P (e := .exit 0) (by simp) (fun s' => ∃ g, s' = ⟨[.c (.os id 0 0 n 5 cap), i64 0, i64 (n : Int), cmpV, i64 ((1 + (n - 1) : Nat) : Int), .any, bl false, .any], H.set id (.cells (eC g) 0 false)⟩ ∧ g.Perm g0 ∧ Asc3 g) (n - 1) 1 N ⟨[.c (.os id 0 0 n 5 cap), i64 0, i64 (n : Int), cmpV, i64 ((1 : Nat) : Int), .any, .any, .any], H.set id (.cells (eC g0) 0 false)⟩
    ⟨g0, rfl, List.Perm.refl _, by
      cases g0 with
      | nil => exact List.Pairwise.nil
      | cons e l => rw [List.take_succ_cons, List.take_zero]; exact List.pairwise_singleton _ _⟩
    (by
      rintro i hi1 hi2 _ ⟨g, rfl, hp, hs⟩
      have hgl : g.length = n := by rw [hp.length_eq, hlen]
      have hig : i < g.length := by omega
      obtain ⟨a, x, rest, rfl, hal⟩ : ∃ a x rest, g = a ++ x :: rest ∧ a.length = i := ⟨g.take i, g[i], g.drop (i + 1), by rw [← List.drop_eq_getElem_cons hig, List.take_append_drop], by rw [List.length_take]; omega⟩
      rw [← hal, List.take_left] at hs
      obtain ⟨a1, d, v, t, h1, h2, h3, h4⟩ := ro125 hX (N := N) (by omega) hid hH (n := n) (i := i) (cap := cap) (a := a) (x := x) (rest := rest) (by omega) (by omega) hal hgl
      refine ⟨_, h4, a1 ++ x :: (d ++ rest), ?_, ?_, ?_⟩
      · refine gc_back _ (by rw [List.length_set]) ?_ (by rw [List.length_set]; exact hH.eset _)
        have : decide (id < (H.set id (.cells (eC (a1 ++ x :: (d ++ rest))) 0 false)).length) = true := decide_eq_true (by rw [List.length_set]; exact hid)
        simp only [keepOnly, List.all_cons, List.all_nil, V.under, C.under, this, Bool.and_self, List.contains_cons, List.contains_nil, Nat.reduceBEq, Nat.reduceAdd, Bool.or_false, Bool.or_true, i64, bl, if_true, Bool.false_eq_true, if_false, beq_self_eq_true]
      · refine List.Perm.trans ?_ hp
        rw [h1, List.append_assoc]
        exact List.Perm.append_left a1 List.perm_middle.symm
      · have htk : (a1 ++ x :: (d ++ rest)).take (i + 1) = a1 ++ x :: d := by
          have hl : (a1 ++ x :: d).length = i + 1 := by
            have : (a1 ++ d).length = i := by rw [← h1, hal]
            simp only [List.length_append, List.length_cons] at this ⊢
            omega
          rw [show a1 ++ x :: (d ++ rest) = (a1 ++ x :: d) ++ rest by simp, List.take_append_of_le_length (by omega), List.take_of_length_le (by omega)]
        rw [htk]
        refine asc_ins (by rw [← h1]; exact hs) h2 h3 ?_
        intro y hy hyx
        have hnd' : ((a ++ x :: rest).map En.s).Nodup := (hp.map En.s).nodup_iff.2 hnd
        rw [h1, List.append_assoc, List.map_append, List.nodup_append] at hnd'
        exact hnd'.2.2 y.s (List.mem_map_of_mem hy) x.s (List.mem_map_of_mem (List.mem_append_right _ List.mem_cons_self)) hyx)
    (by
      rintro _ ⟨g, rfl, hp, hs⟩
      have hgl : g.length = n := by rw [hp.length_eq, hlen]
      refine ⟨_, ?_, g, rfl, hp, by rw [List.take_of_length_le (by omega)] at hs; exact hs⟩
      have hge : ¬ (((1 + (n - 1) : Nat) : Int) < (n : Int)) := by omega
      generalize 1 + (n - 1) = k at *
      simp only [fn125L1, hge, evs])
    (by omega)
  obtain ⟨_, hit, g, rfl, hp, hs⟩ := hit
  refine ⟨g, hp, hs, ?_⟩
  rw [hX.fn (F := fn125') rfl]
  refine (rf_fin _ _ _ _ _ _ _ _ _ (by rfl)).trans ?_
  rw [hset] at hit
  have hw : IntKind.i64.wrap 1 = 1 := by decide
  generalize 1 + (n - 1) = k at *
  simp only [i64, bl, cmpV, Int.natCast_one] at hit ⊢
  simp only [hit, Int.reduceAdd, hw, evs, Nat.reduceAdd, Nat.reduceSub, Nat.reduceBEq]
end Mini
end Go.Proofs.YtgjlofpfbhioaaaGreatDoor
namespace Go.Proofs.YtgjlofpfbhioaaaGreatDoor
namespace Mini
open Go
variable {m : Int} {X : Ctx}
theorem run105 (m : Int) : vcallF (XR m) 100 105 [.c (.d (.int .u64 0))] = some (i64 0) ∧ vcallF (XR m) 100 105 [.c (.d (.int .u64 1))] = some (i64 1) ∧ vcallF (XR m) 100 105 [.c (.d (.int .u64 2))] = some (i64 2) ∧ vcallF (XR m) 100 105 [.c (.d (.int .u64 3))] = some (i64 2) ∧ vcallF (XR m) 100 105 [.c (.d (.int .u64 4))] = some (i64 3) ∧ vcallF (XR m) 100 105 [.c (.d (.int .u64 5))] = some (i64 3) ∧ vcallF (XR m) 100 105 [.c (.d (.int .u64 6))] = some (i64 3) ∧ vcallF (XR m) 100 105 [.c (.d (.int .u64 7))] = some (i64 3) ∧ vcallF (XR m) 100 105 [.c (.d (.int .u64 8))] = some (i64 4) ∧ vcallF (XR m) 100 105 [.c (.d (.int .u64 9))] = some (i64 4) ∧ vcallF (XR m) 100 105 [.c (.d (.int .u64 10))] = some (i64 4) ∧ vcallF (XR m) 100 105 [.c (.d (.int .u64 11))] = some (i64 4) ∧ vcallF (XR m) 100 105 [.c (.d (.int .u64 12))] = some (i64 4) := by
  refine ⟨?_, ?_, ?_, ?_, ?_, ?_, ?_, ?_, ?_, ?_, ?_, ?_, ?_⟩ <;> kernel_rfl
theorem f105 (hX : XOr m X) {N : Nat} (hN : 100 ≤ N) {n : Nat} (hn : n ≤ 12) : ∃ r : Int, vcallN X N 105 [.c (.d (.int .u64 (n : Int)))] = some (i64 r) := by
  have h := run105 m
  simp only [vcallF_eq] at h
  obtain ⟨h0, h1, h2, h3, h4, h5, h6, h7, h8, h9, h10, h11, h12⟩ := h
  have hc : n = 0 ∨ n = 1 ∨ n = 2 ∨ n = 3 ∨ n = 4 ∨ n = 5 ∨ n = 6 ∨ n = 7 ∨ n = 8 ∨ n = 9 ∨ n = 10 ∨ n = 11 ∨ n = 12 := by omega
  rcases hc with rfl | rfl | rfl | rfl | rfl | rfl | rfl | rfl | rfl | rfl | rfl | rfl | rfl
  · exact ⟨_, hX.run h0 hN⟩
  · exact ⟨_, hX.run h1 hN⟩
  · exact ⟨_, hX.run h2 hN⟩
  · exact ⟨_, hX.run h3 hN⟩
  · exact ⟨_, hX.run h4 hN⟩
  · exact ⟨_, hX.run h5 hN⟩
  · exact ⟨_, hX.run h6 hN⟩
  · exact ⟨_, hX.run h7 hN⟩
  · exact ⟨_, hX.run h8 hN⟩
  · exact ⟨_, hX.run h9 hN⟩
  · exact ⟨_, hX.run h10 hN⟩
  · exact ⟨_, hX.run h11 hN⟩
  · exact ⟨_, hX.run h12 hN⟩
theorem c104 (hX : XOr m X) {N : Nat} (hN : 3000 ≤ N) {H : Heap} {id n : Nat} {cap : Option Nat} (hH : Hp H.length H) {g0 : List En} (h0 : H[id]? = some (.cells (eC g0) 0 false)) (hlen : g0.length = n) (hn : n ≤ 12) (hnd : (g0.map En.s).Nodup) (lim : Int) :
    ∃ g1, g1.Perm g0 ∧ Asc3 g1 ∧ callN X N (.d (.fn 104 [] [])) [.c (.os id 0 0 n 5 cap), i64 0, i64 (n : Int), i64 lim, cmpV] H = some (.tup [], H.set id (.cells (eC g1) 0 false)) := by
  obtain ⟨N, rfl⟩ : ∃ M, N = M + 1 := ⟨N - 1, by omega⟩
  obtain ⟨g1, h1, h2, h3⟩ := c125 hX (N := N) (by omega) (cap := cap) hH h0 hlen (by omega) hnd
  refine ⟨g1, h1, h2, ?_⟩
  have w1 : IntKind.i64.wrap ((n : Int) - 0) = (n : Int) := by rw [Int.sub_zero]; exact wrap_nat (by omega)
  have c1 : (n : Int) ≤ 12 := by omega
  simp only [i64, cmpV] at h3
  have hit : ∀ (M : Nat) (q : Heap), iter (some [0, 1, 2, 3, 4, 5, 6]) q.length (exec (zenv X N) N false fn104L0) (M + 1) ⟨[.c (.os id 0 0 n 5 cap), i64 0, i64 (n : Int), i64 lim, cmpV, bl true, bl true, .any, .any, .any, .any, .any, .any, .any, .any, .any, .any, .any, .any, .any, .any, .any, .any, .any], H⟩ = some (.ret, ⟨[.c (.os id 0 0 n 5 cap), i64 0, i64 (n : Int), i64 lim, cmpV, bl true, bl true, i64 (n : Int), .any, .any, .any, .any, .any, .any, .any, .any, bl true, .any, .any, .any, .any, .any, .any, .any], H.set id (.cells (eC g1) 0 false)⟩) := by
    intro M q
    have : exec (zenv X N) N false fn104L0 ⟨[.c (.os id 0 0 n 5 cap), i64 0, i64 (n : Int), i64 lim, cmpV, bl true, bl true, .any, .any, .any, .any, .any, .any, .any, .any, .any, .any, .any, .any, .any, .any, .any, .any, .any], H⟩ = some (.ret, ⟨[.c (.os id 0 0 n 5 cap), i64 0, i64 (n : Int), i64 lim, cmpV, bl true, bl true, i64 (n : Int), .any, .any, .any, .any, .any, .any, .any, .any, bl true, .any, .any, .any, .any, .any, .any, .any], H.set id (.cells (eC g1) 0 false)⟩) := by
      simp only [fn104L0, h3, w1, c1, List.map_cons, List.map_nil, cmpV, evs]
    simp only [iter, this]
  rw [hX.fn (F := fn104') rfl]
  refine (rf_fin _ _ _ _ _ _ _ _ _ (by rfl)).trans ?_
  obtain ⟨M, rfl⟩ : ∃ M, N = M + 1 := ⟨N - 1, by omega⟩
  have hit := hit M H
  simp only [i64, bl, cmpV] at hit ⊢
  simp only [hit, evs, Nat.reduceAdd, Nat.reduceSub, Nat.reduceBEq]
theorem c80 (hX : XOr m X) {N : Nat} (hN : 4000 ≤ N) {H : Heap} {id n : Nat} {cap : Option Nat} (hH : Hp H.length H) {g0 : List En} (h0 : H[id]? = some (.cells (eC g0) 0 false)) (hlen : g0.length = n) (hn : n ≤ 12) (hnd : (g0.map En.s).Nodup) :
    ∃ g1, g1.Perm g0 ∧ Asc3 g1 ∧ callN X N (.d (.fn 80 [] [])) [.c (.os id 0 0 n 5 cap), cmpV] H = some (.tup [], H.set id (.cells (eC g1) 0 false)) := by
  obtain ⟨N, rfl⟩ : ∃ M, N = M + 1 := ⟨N - 1, by omega⟩
  obtain ⟨lim, hl⟩ := f105 hX (N := N) (by omega) hn
  have hl := hX.vc (k := 105) (F := fn105) rfl hl
  obtain ⟨g1, h1, h2, h3⟩ := c104 hX (N := N) (by omega) (cap := cap) hH h0 hlen hn hnd lim
  refine ⟨g1, h1, h2, ?_⟩
  have w1 : IntKind.u64.wrap (n : Int) = (n : Int) := by
    have : (n : Int) % 18446744073709551616 = n := Int.emod_eq_of_lt (by omega) (by omega)
    exact this
  simp only [i64, cmpV] at h3 hl ⊢
  rw [hX.fn (F := fn80') rfl]
  refine (rf_fin _ _ _ _ _ _ _ _ _ (by rfl)).trans ?_
  simp only [hl, h3, w1, List.map_cons, List.map_nil, ↓sp_len, evs, Nat.reduceAdd, Nat.reduceSub]
end Mini
end Go.Proofs.YtgjlofpfbhioaaaGreatDoor
namespace Go.Proofs.YtgjlofpfbhioaaaGreatDoor
namespace Mini
open Go
def setP (s : List Nat) (j : Nat) : List (List Nat × Nat) → List (List Nat × Nat)
  | [] => [(s, j)]
  | e :: es => if s = e.1 then (s, j) :: es else e :: setP s j es
def lookP (s : List Nat) : List (List Nat × Nat) → Option Nat
  | [] => none
  | e :: es => if s = e.1 then some e.2 else lookP s es
def esV (es : List (List Nat × Nat)) : List (V × V) := es.map fun e => (strV e.1, i64 (e.2 : Int))
theorem setM_P (s : List Nat) (j : Nat) : ∀ es, setM (strV s) (i64 (j : Int)) (esV es) = some (esV (setP s j es))
  | [] => rfl
  | e :: es => by
    have ih := setM_P s j es
    unfold esV at ih ⊢
    simp only [List.map_cons, setM, strV, eqKey, setP]
    by_cases h : s = e.1
    · simp only [h, beq_self_eq_true, if_true, List.map_cons]
    · have hb : (s == e.1) = false := by simpa using h
      simp only [strV] at ih
      simp only [hb, if_neg h, ih, Option.map_some, List.map_cons]
theorem lookM_P (s : List Nat) : ∀ es, lookM (strV s) (esV es) = some ((lookP s es).map fun (j : Nat) => i64 (j : Int))
  | [] => rfl
  | e :: es => by
    have ih := lookM_P s es
    unfold esV at ih ⊢
    simp only [List.map_cons, lookM, strV, eqKey, lookP]
    by_cases h : s = e.1
    · simp only [h, beq_self_eq_true, if_true, Option.map_some]
    · have hb : (s == e.1) = false := by simpa using h
      simp only [strV] at ih
      simp only [hb, if_neg h, ih]
theorem esV_len (es : List (List Nat × Nat)) : (esV es).length = es.length := by simp [esV]
theorem esV_d (es : List (List Nat × Nat)) : ((esV es).all fun e => vD e.1 && vD e.2) = true := by simp [esV, vD, strV, i64]
theorem lookP_set (s t : List Nat) (j : Nat) : ∀ es, lookP t (setP s j es) = if t = s then some j else lookP t es
  | [] => by simp [setP, lookP]
  | e :: es => by
    have ih := lookP_set s t j es
    unfold setP
    by_cases h : s = e.1
    · rw [if_pos h]
      unfold lookP
      by_cases h2 : t = s
      · simp [h2]
      · rw [if_neg h2, if_neg h2, if_neg (h ▸ h2)]
    · rw [if_neg h]
      unfold lookP
      by_cases h2 : t = e.1
      · have : t ≠ s := fun h3 => h (h3 ▸ h2)
        rw [if_pos h2, if_pos h2, if_neg this]
      · rw [if_neg h2, if_neg h2]; exact ih
theorem keys_set (s : List Nat) (j : Nat) : ∀ es : List (List Nat × Nat), (es.map Prod.fst).Nodup → ((setP s j es).map Prod.fst).Nodup ∧ ∀ t, t ∈ (setP s j es).map Prod.fst ↔ t = s ∨ t ∈ es.map Prod.fst
  | [], _ => by simp [setP]
  | e :: es, h => by
    rw [List.map_cons, List.nodup_cons] at h
    obtain ⟨i1, i2⟩ := keys_set s j es h.2
    unfold setP
    by_cases c : s = e.1
    · rw [if_pos c]
      refine ⟨?_, fun t => ?_⟩
      · rw [List.map_cons, List.nodup_cons]; exact ⟨by rw [c]; exact h.1, h.2⟩
      · simp only [List.map_cons, List.mem_cons, c]
        constructor
        · exact fun h => h.elim .inl (fun h => .inr (.inr h))
        · exact fun h => h.elim .inl id
    · rw [if_neg c]
      refine ⟨?_, fun t => ?_⟩
      · rw [List.map_cons, List.nodup_cons]
        exact ⟨fun h3 => ((i2 _).1 h3).elim (fun h4 => c h4.symm) h.1, i1⟩
      · simp only [List.map_cons, List.mem_cons, i2]
        constructor
        · rintro (h | h | h)
          · exact .inr (.inl h)
          · exact .inl h
          · exact .inr (.inr h)
        · rintro (h | h | h)
          · exact .inr (.inl h)
          · exact .inl h
          · exact .inr (.inr h)
def atP (l : List En) : Nat → List (List Nat × Nat)
  | 0 => []
  | i + 1 => setP (l.getD i e0).s i (atP l i)
theorem atP_keys (l : List En) : ∀ i, ((atP l i).map Prod.fst).Nodup ∧ ∀ t, t ∈ (atP l i).map Prod.fst ↔ ∃ j, j < i ∧ (l.getD j e0).s = t
  | 0 => ⟨List.nodup_nil, fun t => ⟨fun h => (by cases h), fun ⟨j, h, _⟩ => by omega⟩⟩
  | i + 1 => by
    obtain ⟨h1, h2⟩ := atP_keys l i
    obtain ⟨h3, h4⟩ := keys_set (l.getD i e0).s i _ h1
    refine ⟨h3, fun t => (h4 t).trans ?_⟩
    rw [h2]
    constructor
    · rintro (rfl | ⟨j, h5, h6⟩)
      · exact ⟨i, by omega, rfl⟩
      · exact ⟨j, by omega, h6⟩
    · rintro ⟨j, h5, h6⟩
      by_cases c : j = i
      · exact .inl (c ▸ h6.symm)
      · exact .inr ⟨j, by omega, h6⟩
theorem lookP_some (l : List En) : ∀ (n j : Nat), j < n → ∃ k, lookP (l.getD j e0).s (atP l n) = some k
  | n + 1, j, hj => by
    unfold atP
    rw [lookP_set]
    by_cases c : (l.getD j e0).s = (l.getD n e0).s
    · exact ⟨n, if_pos c⟩
    · rw [if_neg c]
      have hjn : j < n := by
        rcases Nat.lt_or_ge j n with h | h
        · exact h
        · exact absurd (by rw [show j = n by omega]) c
      exact lookP_some l n j hjn
def keptJ (l : List En) (n : Nat) : Nat → List En
  | 0 => []
  | i + 1 => if lookP (l.getD i e0).s (atP l n) = some i then keptJ l n i ++ [newE (l.getD i e0)] else keptJ l n i
theorem kept_mem (l : List En) (n : Nat) : ∀ i {e : En}, e ∈ keptJ l n i ↔ ∃ j, j < i ∧ lookP (l.getD j e0).s (atP l n) = some j ∧ e = newE (l.getD j e0)
  | 0, e => ⟨fun h => (by cases h), fun ⟨j, h, _⟩ => by omega⟩
  | i + 1, e => by
    unfold keptJ
    have ih := kept_mem l n i (e := e)
    by_cases c : lookP (l.getD i e0).s (atP l n) = some i
    · rw [if_pos c, List.mem_append, ih, List.mem_singleton]
      constructor
      · rintro (⟨j, h1, h2, h3⟩ | h)
        · exact ⟨j, by omega, h2, h3⟩
        · exact ⟨i, by omega, c, h⟩
      · rintro ⟨j, h1, h2, h3⟩
        by_cases c2 : j = i
        · exact .inr (c2 ▸ h3)
        · exact .inl ⟨j, by omega, h2, h3⟩
    · rw [if_neg c, ih]
      constructor
      · rintro ⟨j, h1, h2, h3⟩
        exact ⟨j, by omega, h2, h3⟩
      · rintro ⟨j, h1, h2, h3⟩
        by_cases c2 : j = i
        · exact absurd (c2 ▸ h2) c
        · exact ⟨j, by omega, h2, h3⟩
theorem kept_nodup (l : List En) (n : Nat) : ∀ i, ((keptJ l n i).map En.s).Nodup
  | 0 => List.nodup_nil
  | i + 1 => by
    have ih := kept_nodup l n i
    unfold keptJ
    by_cases c : lookP (l.getD i e0).s (atP l n) = some i
    · rw [if_pos c, List.map_append, List.nodup_append]
      refine ⟨ih, by simp, ?_⟩
      intro s hs t ht hst
      obtain ⟨e, he, rfl⟩ := List.mem_map.1 hs
      obtain ⟨j, h1, h2, rfl⟩ := (kept_mem l n i).1 he
      have ht' : t = (l.getD i e0).s := List.mem_singleton.1 ht
      have h3 : (l.getD j e0).s = (l.getD i e0).s := hst.trans ht'
      rw [h3, c] at h2
      cases h2
      omega
    · rw [if_neg c]; exact ih
theorem kept_len (l : List En) (n : Nat) : (keptJ l n n).length = (atP l n).length := by
  have h1 := kept_nodup l n n
  obtain ⟨h2, h3⟩ := atP_keys l n
  have h4 : ((keptJ l n n).map En.s).Perm ((atP l n).map Prod.fst) := by
    refine (List.perm_ext_iff_of_nodup h1 h2).2 fun s => ?_
    rw [h3, List.mem_map]
    constructor
    · rintro ⟨e, he, rfl⟩
      obtain ⟨j, q1, q2, rfl⟩ := (kept_mem l n n).1 he
      exact ⟨j, q1, rfl⟩
    · rintro ⟨j, q1, rfl⟩
      obtain ⟨k, hk⟩ := lookP_some l n j q1
      have hk' : k < n ∧ (l.getD k e0).s = (l.getD j e0).s ∧ lookP (l.getD k e0).s (atP l n) = some k := by
        have : ∀ (n : Nat) (s : List Nat) (k : Nat), lookP s (atP l n) = some k → k < n ∧ (l.getD k e0).s = s := by
          intro n
          induction n with
          | zero => intro s k h; cases h
          | succ n ih =>
            intro s k h
            unfold atP at h
            rw [lookP_set] at h
            by_cases c : s = (l.getD n e0).s
            · rw [if_pos c] at h; cases h; exact ⟨by omega, c.symm⟩
            · rw [if_neg c] at h
              obtain ⟨a, b⟩ := ih s k h
              exact ⟨by omega, b⟩
        obtain ⟨a, b⟩ := this n _ _ hk
        exact ⟨a, b, by rw [b]; exact hk⟩
      exact ⟨newE (l.getD k e0), (kept_mem l n n).2 ⟨k, hk'.1, hk'.2.2, rfl⟩, hk'.2.1⟩
  have := h4.length_eq
  simpa using this
theorem kept_le (l : List En) (n : Nat) : ∀ (d i : Nat), i + d = n → (keptJ l n i).length ≤ (keptJ l n n).length
  | 0, i, h => by rw [show i = n by omega]; exact Nat.le_refl _
  | d + 1, i, h => by
    refine Nat.le_trans ?_ (kept_le l n d (i + 1) (by omega))
    rw [keptJ]
    split
    · simp
    · exact Nat.le_refl _
end Mini
end Go.Proofs.YtgjlofpfbhioaaaGreatDoor
namespace Go.Proofs.YtgjlofpfbhioaaaGreatDoor
namespace Mini
open Go
variable {m : Int} {X : Ctx}
def ldc (g : Bool) (n : Nat) (H : Heap) : V → Option (V × List Ob)
  | .c (.ptr id gen off) =>
    match ob? H id with
    | some (.cells cs g' _) => if g' = gen then (ofCells g n ((cs.drop off).take n)).map fun v => (v, []) else none
    | _ => none
  | .c (.d (.ip cs)) => (ofCells g n ((cs.take n).map .d)).map fun v => (v, [])
  | _ => none
theorem sp_ld (lk : A → V) (H : Heap) (g : Bool) (n : Nat) (a : A) : stepP lk H (.ld g n a) = ldc g n H (lk a) := rfl
theorem ldc_ptr {g : Bool} {n : Nat} {H : Heap} {id gen off : Nat} {cs : List C} {f : Bool} (h : H[id]? = some (.cells cs gen f)) : ldc g n H (.c (.ptr id gen off)) = (ofCells g n ((cs.drop off).take n)).map fun v => (v, []) := by
  simp only [ldc, ob_eq, h, if_true]
structure ArgE (H : Heap) (v : V) (l : List En) : Prop where
  len : lenc v = some (i64 (l.length : Int), [])
  at' : ∀ i, i < l.length → ∃ p, ixac 5 i v = some (p, []) ∧ ∀ t, ldc true 5 (H ++ t) p = some (.agg ((l.getD i e0).ds.map .d), [])
  und : ∀ k, H.length ≤ k → V.under k v = true
  hp : Hp H.length H
  wf : ∀ e ∈ l, wfE e
  sm : ∀ e ∈ l, e.s.length ≤ 1000 ∧ e.l.length ≤ 1000
theorem sx1 {α : Type} (H : List α) (a b c : α) : (H ++ [a, b]).set H.length c = H ++ [c, b] := by
  rw [List.set_append_right _ _ (Nat.le_refl _), Nat.sub_self]; rfl
theorem sx2 {α : Type} (H : List α) (a b c : α) : (H ++ [a, b]).set (H.length + 1) c = H ++ [a, c] := by
  rw [List.set_append_right _ _ (by omega), show H.length + 1 - H.length = 1 by omega]; rfl
abbrev R47 (v : V) (M n i : Nat) : List V := [v, .any, .any, .c (.mp M), .any, .any, .any, .any, .any, .any, .any, v, i64 (n : Int), i64 (i : Int), .any, .any, .any, .any, .any, .any, .any, .any]
theorem r47 (hX : XOr m X) {N : Nat} (hN : 3000 ≤ N) {H : Heap} {v : V} {l : List En} (hA : ArgE H v l) {es : List (List Nat × Nat)} {i : Nat} (hi : i < l.length) (hl : l.length < 1000000) :
    exec (zenv X N) N false fn47L1 ⟨R47 v H.length l.length i, H ++ [.map (esV es)]⟩ =
      if (l.getD i e0).chk = 0 then some (.nrm, ⟨[v, .any, .any, .c (.mp H.length), i64 (i : Int), .c (.ptr (H.length + 1) 0 0), i64 0, .any, .any, .any, .any, v, i64 (l.length : Int), i64 ((i + 1 : Nat) : Int), bl true, bl false, .any, .any, .any, .any, .any, .any], H ++ [.map (esV (setP (l.getD i e0).s i es)), .cells ((l.getD i e0).ds.map .d) 0 false]⟩)
      else some (.ret, ⟨[v, .c (.d .nils), i64 ((l.getD i e0).chk : Int), .c (.mp H.length), i64 (i : Int), .c (.ptr (H.length + 1) 0 0), i64 ((l.getD i e0).chk : Int), .any, .any, .any, .any, v, i64 (l.length : Int), i64 (i : Int), bl true, bl true, .any, .any, .any, .any, .any, .any], H ++ [.map (esV es), .cells ((l.getD i e0).ds.map .d) 0 false]⟩) := by
  have hm := getE_mem hi
  have hlt : (i : Int) < (l.length : Int) := by omega
  have hw := wrap_succ (k := i) (by omega)
  obtain ⟨p, h1, h2⟩ := hA.at' i hi
  obtain ⟨w1, w2⟩ := hA.wf _ hm
  obtain ⟨b1, b2⟩ := hA.sm _ hm
  have h48 : (zenv X N).vcall 48 [.agg ((l.getD i e0).ds.map .d)] = some (i64 ((l.getD i e0).chk : Int)) := hX.j.vc (k := 48) (F := fn48) rfl (f48 hX.j (by omega) (by omega) w1 w2 (by omega))
  have hm1 := setM_P (l.getD i e0).s i es
  generalize l.getD i e0 = e at *
  have n1 := nx1 H (.map (esV es)) (.cells (e.ds.map .d) 0 false)
  have n2 := nx2 H (.map (esV es)) (.cells (e.ds.map .d) 0 false)
  have d1 : ldc true 5 (H ++ [.map (esV es), .cells (e.ds.map .d) 0 false]) (.c (.ptr (H.length + 1) 0 0)) = some (.agg (e.ds.map .d), []) := by rw [ldc_ptr n2]; rfl
  have d2 : ldc false 1 (H ++ [.map (esV es), .cells (e.ds.map .d) 0 false]) (.c (.ptr (H.length + 1) 0 0)) = some (.c (.d (.str e.s)), []) := by rw [ldc_ptr n2]; rfl
  have h3 := h2 [.map (esV es)]
  have q1 := sx1 H (.map (esV es)) (.cells (e.ds.map .d) 0 false)
  generalize hch : e.chk = ch at *
  generalize esV (setP e.s i es) = es' at *
  generalize esV es = ev at *
  obtain ⟨s, acc, r, t, w, ol⟩ := e
  simp only [En.ds, List.map_cons, List.map_nil, i64, strV] at *
  by_cases c : ch = 0
  · rw [if_pos c]
    subst c
    have g0 : ((0 : Int) != 0) = false := rfl
    simp only [fn47L1, h1, h3, h48, d1, d2, n1, hm1, q1, hlt, hw, g0, Int.natCast_zero, V.closed, C.isD, List.length_append, List.append_assoc, List.map_cons, List.map_nil, ↓sp_ld, ↓sp_ixa, evs, Nat.reduceAdd]
  · rw [if_neg c]
    have g0 : ((ch : Int) != 0) = true := by rw [bne_iff_ne]; omega
    simp only [fn47L1, h1, h3, h48, d1, hlt, g0, List.length_append, List.append_assoc, List.map_cons, List.map_nil, ↓sp_ld, ↓sp_ixa, evs, Nat.reduceAdd]
end Mini
end Go.Proofs.YtgjlofpfbhioaaaGreatDoor
namespace Go.Proofs.YtgjlofpfbhioaaaGreatDoor
namespace Mini
open Go
variable {m : Int} {X : Ctx}
theorem under_c (n : Nat) (x : C) : V.under n (.c x) = C.under n x := rfl
theorem under_any (n : Nat) : V.under n .any = true := rfl
theorem uO_map (n : Nat) (es : List (List Nat × Nat)) : uO n (.map (esV es)) = true := esV_d es
theorem it47 (hX : XOr m X) {N : Nat} (hN : 6000 ≤ N) {H : Heap} {v : V} {l : List En} (hA : ArgE H v l) (hl : l.length < 5000) :
    ((∀ j, j < l.length → (l.getD j e0).chk = 0) ∧ iter (some [0, 3, 11, 12, 13]) (H.length + 1) (exec (zenv X N) N false fn47L1) N ⟨R47 v H.length l.length 0, H ++ [.map (esV (atP l 0))]⟩ =
        some (.exit 0, ⟨[v, .any, .any, .c (.mp H.length), .any, .any, .any, .any, .any, .any, .any, v, i64 (l.length : Int), i64 (l.length : Int), bl false, .any, .any, .any, .any, .any, .any, .any], H ++ [.map (esV (atP l l.length))]⟩)) ∨
    ∃ k, k < l.length ∧ (l.getD k e0).chk ≠ 0 ∧ (∀ j, j < k → (l.getD j e0).chk = 0) ∧ iter (some [0, 3, 11, 12, 13]) (H.length + 1) (exec (zenv X N) N false fn47L1) N ⟨R47 v H.length l.length 0, H ++ [.map (esV (atP l 0))]⟩ =
        some (.ret, ⟨[v, .c (.d .nils), i64 ((l.getD k e0).chk : Int), .c (.mp H.length), i64 (k : Int), .c (.ptr (H.length + 1) 0 0), i64 ((l.getD k e0).chk : Int), .any, .any, .any, .any, v, i64 (l.length : Int), i64 (k : Int), bl true, bl true, .any, .any, .any, .any, .any, .any], H ++ [.map (esV (atP l k)), .cells ((l.getD k e0).ds.map .d) 0 false]⟩) := by
  have hsc := iter_scan (js := some [0, 3, 11, 12, 13]) (hl := H.length + 1) (body := exec (zenv X N) N false fn47L1) (fun j => (l.getD j e0).chk ≠ 0) l.length (fun j => ⟨R47 v H.length l.length j, H ++ [.map (esV (atP l j))]⟩) (b := 0)
    (s1 := ⟨[v, .any, .any, .c (.mp H.length), .any, .any, .any, .any, .any, .any, .any, v, i64 (l.length : Int), i64 (l.length : Int), bl false, .any, .any, .any, .any, .any, .any, .any], H ++ [.map (esV (atP l l.length))]⟩)
    (s2 := fun k => ⟨[v, .c (.d .nils), i64 ((l.getD k e0).chk : Int), .c (.mp H.length), i64 (k : Int), .c (.ptr (H.length + 1) 0 0), i64 ((l.getD k e0).chk : Int), .any, .any, .any, .any, v, i64 (l.length : Int), i64 (k : Int), bl true, bl true, .any, .any, .any, .any, .any, .any], H ++ [.map (esV (atP l k)), .cells ((l.getD k e0).ds.map .d) 0 false]⟩)
    (fuel := N) (by omega)
    (by
      intro j hj hp
      have hp := Decidable.not_not.1 hp
      have hr := r47 hX (N := N) (by omega) hA (es := atP l j) hj (by omega)
      rw [if_pos hp] at hr
      refine ⟨_, hr, ?_⟩
      rw [show H ++ [.map (esV (setP (l.getD j e0).s j (atP l j))), .cells ((l.getD j e0).ds.map .d) 0 false] = (H ++ [.map (esV (atP l (j + 1)))]) ++ [.cells ((l.getD j e0).ds.map .d) 0 false] by rw [List.append_assoc]; rfl]
      have hlen : (H ++ [Ob.map (esV (atP l (j + 1)))]).length = H.length + 1 := by simp
      refine gc_back _ hlen.symm ?_ ?_
      · rw [hlen]
        have h1 := hA.und (H.length + 1) (by omega)
        have h2 : decide (H.length < H.length + 1) = true := decide_eq_true (by omega)
        simp only [keepOnly, List.all_cons, List.all_nil, under_c, under_any, C.under, h1, h2, Bool.and_self, List.contains_cons, List.contains_nil, Nat.reduceBEq, Nat.reduceAdd, Bool.or_false, Bool.or_true, i64, bl, if_true, Bool.false_eq_true, if_false, beq_self_eq_true]
      · rw [hlen]
        exact (hA.hp.mono (by omega)).app (Hp.cons (uO_map _ _) Hp.nil))
    (by
      have hlt : ¬ ((l.length : Int) < (l.length : Int)) := by omega
      simp only [fn47L1, hlt, evs])
    (by
      intro k hk hp
      have hr := r47 hX (N := N) (by omega) hA (es := atP l k) hk (by omega)
      rw [if_neg hp] at hr
      exact hr)
  rcases hsc with ⟨h1, h2⟩ | ⟨k, h1, h2, h3, h4⟩
  · exact .inl ⟨fun j hj => Decidable.not_not.1 (h1 j hj), h2⟩
  · exact .inr ⟨k, h1, h2, fun j hj => Decidable.not_not.1 (h3 j hj), h4⟩
theorem nx31 {α : Type} (H : List α) (a b c : α) : (H ++ [a, b, c])[H.length]? = some a := by
  rw [List.getElem?_append_right (Nat.le_refl _), Nat.sub_self]; rfl
theorem nx33 {α : Type} (H : List α) (a b c : α) : (H ++ [a, b, c])[H.length + 2]? = some c := by
  rw [List.getElem?_append_right (by omega), show H.length + 2 - H.length = 2 by omega]; rfl
theorem sx33 {α : Type} (H : List α) (a b c d : α) : (H ++ [a, b, c]).set (H.length + 2) d = H ++ [a, b, d] := by
  rw [List.set_append_right _ _ (by omega), show H.length + 2 - H.length = 2 by omega]; rfl
theorem nx42 {α : Type} (H : List α) (a b c d : α) : (H ++ [a, b, c, d])[H.length + 1]? = some b := by
  rw [List.getElem?_append_right (by omega), show H.length + 1 - H.length = 1 by omega]; rfl
theorem nx44 {α : Type} (H : List α) (a b c d : α) : (H ++ [a, b, c, d])[H.length + 3]? = some d := by
  rw [List.getElem?_append_right (by omega), show H.length + 3 - H.length = 3 by omega]; rfl
theorem sx42 {α : Type} (H : List α) (a b c d e : α) : (H ++ [a, b, c, d]).set (H.length + 1) e = H ++ [a, e, c, d] := by
  rw [List.set_append_right _ _ (by omega), show H.length + 1 - H.length = 1 by omega]; rfl
abbrev S47 (v : V) (M n i c k : Nat) : List V := [.any, .any, .any, .c (.mp M), .any, .any, .any, .c (.os (M + 1) 0 0 c 5 (some k)), .any, .any, .any, .any, .any, .any, .any, .any, .any, v, i64 (n : Int), i64 (i : Int), .any, .any]
theorem s47 (hX : XOr m X) {N : Nat} (hN : 3000 ≤ N) {H : Heap} {v : V} {l : List En} (hA : ArgE H v l) {es : List (List Nat × Nat)} {g : List En} {i k : Nat} (hi : i < l.length) (hl : l.length < 1000000) (hk : lookP (l.getD i e0).s es = some i) (hg : g.length < k) (hk2 : k < 1000000) :
    exec (zenv X N) N false fn47L0 ⟨S47 v H.length l.length i g.length k, H ++ [.map (esV es), .cells (eC g) 0 false]⟩ =
      some (.nrm, ⟨[.any, .any, .any, .c (.mp H.length), .any, .any, .any, .c (.os (H.length + 1) 0 0 (g.length + 1) 5 (some k)), i64 (i : Int), .c (.ptr (H.length + 2) 0 0), .any, .any, .any, .any, .any, .any, .any, v, i64 (l.length : Int), i64 ((i + 1 : Nat) : Int), bl true, bl true],
        H ++ [.map (esV es), .cells (eC (g ++ [newE (l.getD i e0)])) 0 false, .cells ((newE (l.getD i e0)).ds.map .d) 0 false, .cells ((newE (l.getD i e0)).ds.map .d) 0 false]⟩) := by
  have hm := getE_mem hi
  have hlt : (i : Int) < (l.length : Int) := by omega
  have hw := wrap_succ (k := i) (by omega)
  obtain ⟨p, h1, h2⟩ := hA.at' i hi
  obtain ⟨w1, w2⟩ := hA.wf _ hm
  obtain ⟨b1, b2⟩ := hA.sm _ hm
  have h79 : (zenv X N).vcall 79 [.c (.d (l.getD i e0).w)] = some (.c (.d (exD (l.getD i e0).l))) := hX.j.vc (k := 79) (F := fn79) rfl (f79 hX.j (by omega) w1 w2 (by omega))
  have hm1 := lookM_P (l.getD i e0).s es
  rw [hk] at hm1
  generalize l.getD i e0 = e at *
  have hsn : eC (g ++ [newE e]) = eC g ++ (newE e).ds.map .d := eC_snoc _ _
  have hgl : (eC g).length = g.length * 5 := eC_len g
  have n31 := nx31 H (.map (esV es)) (.cells (eC g) 0 false) (.cells (e.ds.map .d) 0 false)
  have n33 := nx33 H (.map (esV es)) (.cells (eC g) 0 false) (.cells (e.ds.map .d) 0 false)
  have n33' := nx33 H (.map (esV es)) (.cells (eC g) 0 false) (.cells ((newE e).ds.map .d) 0 false)
  have q33 := sx33 H (.map (esV es)) (.cells (eC g) 0 false) (.cells (e.ds.map .d) 0 false) (.cells ((newE e).ds.map .d) 0 false)
  have d1 : ldc false 1 (H ++ [.map (esV es), .cells (eC g) 0 false, .cells (e.ds.map .d) 0 false]) (.c (.ptr (H.length + 2) 0 0)) = some (.c (.d (.str e.s)), []) := by rw [ldc_ptr n33]; rfl
  have d2 : ldc false 1 (H ++ [.map (esV es), .cells (eC g) 0 false, .cells (e.ds.map .d) 0 false]) (.c (.ptr (H.length + 2) 0 4)) = some (.c (.d e.w), []) := by rw [ldc_ptr n33]; rfl
  have d3 : ldc true 5 (H ++ [.map (esV es), .cells (eC g) 0 false, .cells ((newE e).ds.map .d) 0 false]) (.c (.ptr (H.length + 2) 0 0)) = some (.agg ((newE e).ds.map .d), []) := by rw [ldc_ptr n33']; rfl
  have n42 := nx42 H (.map (esV es)) (.cells (eC g) 0 false) (.cells ((newE e).ds.map .d) 0 false) (.cells ((newE e).ds.map .d) 0 false)
  have n44 := nx44 H (.map (esV es)) (.cells (eC g) 0 false) (.cells ((newE e).ds.map .d) 0 false) (.cells ((newE e).ds.map .d) 0 false)
  have q42 := sx42 H (.map (esV es)) (.cells (eC g) 0 false) (.cells ((newE e).ds.map .d) 0 false) (.cells ((newE e).ds.map .d) 0 false) (.cells (eC g ++ (newE e).ds.map .d) 0 false)
  have sp1 : splice (eC g) (g.length * 5) ((newE e).ds.map .d) = eC g ++ (newE e).ds.map .d := by
    unfold splice
    rw [← hgl, List.take_length, List.drop_eq_nil_of_le (by omega), List.append_nil]
  have h3 := h2 [.map (esV es), .cells (eC g) 0 false]
  rw [hsn]
  have k1 : g.length * 5 ≤ (eC g).length := by omega
  have k2 : g.length + 1 ≤ 1073741824 := by omega
  have k3 : g.length + 1 ≤ k := by omega
  generalize eC g = cg at *
  generalize esV es = ev at *
  generalize g.length = gl at *
  obtain ⟨s, acc, r, t, w, ol⟩ := e
  simp only [newE, En.ds, List.map_cons, List.map_nil, i64, strV] at *
  have sA : splice [.d (.str s), .d (.bool acc), .d (.int .u8 (r : Int)), .d (.int .i64 t), .d w] 4 [.d (exD ol)] = [.d (.str s), .d (.bool acc), .d (.int .u8 (r : Int)), .d (.int .i64 t), .d (exD ol)] := rfl
  have sB : ∀ a b c d e : C, splice [.d (.str []), .d (.bool false), .d (.int .u8 0), .d (.int .i64 0), .d .nils] 0 [a, b, c, d, e] = [a, b, c, d, e] := fun _ _ _ _ _ => rfl
  simp only [fn47L0, sA, sB, h1, h3, h79, d1, d2, d3, n31, n33, q33, n42, n44, q42, sp1, hm1, hlt, hw, k1, k2, k3, lay, rep, elems, List.take, List.drop, List.length_append, List.append_assoc, Option.map_some, Option.getD_some, freeze_nil, reachV, reachC, ite_self, List.flatMap_cons, List.flatMap_nil, List.map_cons, List.map_nil, ↓sp_ld, ↓sp_ixa, evs, Nat.reduceAdd, Nat.reduceEqDiff, Nat.reduceLeDiff]
end Mini
end Go.Proofs.YtgjlofpfbhioaaaGreatDoor
namespace Go.Proofs.YtgjlofpfbhioaaaGreatDoor
namespace Mini
open Go
variable {m : Int} {X : Ctx}
theorem set_le (s : List Nat) (j : Nat) : ∀ es : List (List Nat × Nat), (setP s j es).length ≤ es.length + 1
  | [] => Nat.le_refl _
  | e :: es => by
    have := set_le s j es
    unfold setP
    split <;> simp only [List.length_cons] <;> omega
theorem at_le (l : List En) : ∀ n, (atP l n).length ≤ n
  | 0 => Nat.le_refl _
  | n + 1 => by
    have h1 := at_le l n
    have h2 := set_le (l.getD n e0).s n (atP l n)
    simp only [atP]
    omega
theorem t47 (_hX : XOr m X) {N : Nat} (_hN : 3000 ≤ N) {H : Heap} {v : V} {l : List En} (hA : ArgE H v l) {es : List (List Nat × Nat)} {g : List En} {i j k : Nat} (hi : i < l.length) (hl : l.length < 1000000) (hk : lookP (l.getD i e0).s es = some j) (hj : j ≠ i) :
    exec (zenv X N) N false fn47L0 ⟨S47 v H.length l.length i g.length k, H ++ [.map (esV es), .cells (eC g) 0 false]⟩ =
      some (.nrm, ⟨[.any, .any, .any, .c (.mp H.length), .any, .any, .any, .c (.os (H.length + 1) 0 0 g.length 5 (some k)), i64 (i : Int), .c (.ptr (H.length + 2) 0 0), .any, .any, .any, .any, .any, .any, .any, v, i64 (l.length : Int), i64 ((i + 1 : Nat) : Int), bl true, bl false],
        H ++ [.map (esV es), .cells (eC g) 0 false, .cells ((l.getD i e0).ds.map .d) 0 false]⟩) := by
  have hlt : (i : Int) < (l.length : Int) := by omega
  have hw := wrap_succ (k := i) (by omega)
  have hne : ((j : Int) == (i : Int)) = false := by rw [beq_eq_false_iff_ne]; omega
  obtain ⟨p, h1, h2⟩ := hA.at' i hi
  have hm1 := lookM_P (l.getD i e0).s es
  rw [hk] at hm1
  generalize l.getD i e0 = e at *
  have n31 := nx31 H (.map (esV es)) (.cells (eC g) 0 false) (.cells (e.ds.map .d) 0 false)
  have n33 := nx33 H (.map (esV es)) (.cells (eC g) 0 false) (.cells (e.ds.map .d) 0 false)
  have d1 : ldc false 1 (H ++ [.map (esV es), .cells (eC g) 0 false, .cells (e.ds.map .d) 0 false]) (.c (.ptr (H.length + 2) 0 0)) = some (.c (.d (.str e.s)), []) := by rw [ldc_ptr n33]; rfl
  have h3 := h2 [.map (esV es), .cells (eC g) 0 false]
  generalize eC g = cg at *
  generalize esV es = ev at *
  generalize g.length = gl at *
  obtain ⟨s, acc, r, t, w, ol⟩ := e
  simp only [En.ds, List.map_cons, List.map_nil, i64, strV] at *
  simp only [fn47L0, h1, h3, d1, n31, hm1, hlt, hw, hne, List.length_append, List.append_assoc, Option.map_some, Option.getD_some, ↓sp_ld, ↓sp_ixa, evs, Nat.reduceAdd]
theorem jt47 (hX : XOr m X) {N : Nat} (hN : 6000 ≤ N) {H : Heap} {v : V} {l : List En} (hA : ArgE H v l) (hl : l.length < 5000) {k : Nat} (hk : (atP l l.length).length = k) :
    iter (some [3, 7, 17, 18, 19]) (H.length + 2) (exec (zenv X N) N false fn47L0) N ⟨S47 v H.length l.length 0 0 k, H ++ [.map (esV (atP l l.length)), .cells [] 0 false]⟩ =
      some (.exit 2, ⟨[.any, .any, .any, .c (.mp H.length), .any, .any, .any, .c (.os (H.length + 1) 0 0 k 5 (some k)), .any, .any, .any, .any, .any, .any, .any, .any, .any, v, i64 (l.length : Int), i64 (l.length : Int), bl false, .any], H ++ [.map (esV (atP l l.length)), .cells (eC (keptJ l l.length l.length)) 0 false]⟩) := by
  have hkl : (keptJ l l.length l.length).length = k := by rw [kept_len, hk]
  refine iter_to (fun j => ⟨S47 v H.length l.length j (keptJ l l.length j).length k, H ++ [.map (esV (atP l l.length)), .cells (eC (keptJ l l.length j)) 0 false]⟩) (e := .exit 2) (fun h => by cases h) l.length 0 N (fun j _ hj => ?_) ?_ (by omega)
  · rw [Nat.zero_add] at hj
    have htd : ∀ (g : List En) (x y : V) (b : Bool) (t : Heap), tidy (H.length + 2) (some [3, 7, 17, 18, 19]) ⟨[.any, .any, .any, .c (.mp H.length), .any, .any, .any, .c (.os (H.length + 1) 0 0 g.length 5 (some k)), x, y, .any, .any, .any, .any, .any, .any, .any, v, i64 (l.length : Int), i64 ((j + 1 : Nat) : Int), bl true, bl b], (H ++ [.map (esV (atP l l.length)), .cells (eC g) 0 false]) ++ t⟩ = ⟨S47 v H.length l.length (j + 1) g.length k, H ++ [.map (esV (atP l l.length)), .cells (eC g) 0 false]⟩ := by
      intro g x y b t
      have hlen : (H ++ [Ob.map (esV (atP l l.length)), Ob.cells (eC g) 0 false]).length = H.length + 2 := by simp
      refine gc_back _ hlen.symm ?_ ?_
      · rw [hlen]
        have h1 := hA.und (H.length + 2) (by omega)
        have h2 : decide (H.length < H.length + 2) = true := decide_eq_true (by omega)
        have h3 : decide (H.length + 1 < H.length + 2) = true := decide_eq_true (by omega)
        simp only [keepOnly, List.all_cons, List.all_nil, under_c, under_any, C.under, h1, h2, h3, Bool.and_self, List.contains_cons, List.contains_nil, Nat.reduceBEq, Nat.reduceAdd, Bool.or_false, Bool.or_true, i64, bl, if_true, Bool.false_eq_true, if_false, beq_self_eq_true]
      · rw [hlen]
        exact (hA.hp.mono (by omega)).app (Hp.cons (uO_map _ _) (Hp.cons (eC_u _ _) Hp.nil))
    obtain ⟨q, hq⟩ := lookP_some l l.length j hj
    have hle := kept_le l l.length (l.length - (j + 1)) (j + 1) (by omega)
    rw [hkl] at hle
    by_cases c : q = j
    · subst c
      have hks : keptJ l l.length (q + 1) = keptJ l l.length q ++ [newE (l.getD q e0)] := by rw [keptJ, if_pos hq]
      rw [hks, List.length_append, List.length_singleton] at hle
      have hs := s47 hX (N := N) (by omega) hA (g := keptJ l l.length q) (k := k) hj (by omega) hq (by omega) (by have := at_le l l.length; omega)
      refine ⟨_, hs, ?_⟩
      have h4 := htd (keptJ l l.length q ++ [newE (l.getD q e0)]) (i64 (q : Int)) (.c (.ptr (H.length + 2) 0 0)) true [.cells ((newE (l.getD q e0)).ds.map .d) 0 false, .cells ((newE (l.getD q e0)).ds.map .d) 0 false]
      rw [List.length_append, List.length_singleton, List.append_assoc] at h4
      simp only [hks, List.length_append, List.length_singleton]
      exact h4
    · have hks : keptJ l l.length (j + 1) = keptJ l l.length j := by
        rw [keptJ, if_neg]
        rw [hq]
        exact fun h => c (Option.some.inj h)
      have hs := t47 hX (N := N) (by omega) hA (g := keptJ l l.length j) (k := k) hj (by omega) hq c
      refine ⟨_, hs, ?_⟩
      have h4 := htd (keptJ l l.length j) (i64 (j : Int)) (.c (.ptr (H.length + 2) 0 0)) false [.cells ((l.getD j e0).ds.map .d) 0 false]
      rw [List.append_assoc] at h4
      simp only [hks]
      exact h4
  · have hlt : ¬ ((l.length : Int) < (l.length : Int)) := by omega
    simp only [Nat.zero_add, hkl]
    simp only [fn47L0, hlt, evs]
end Mini
end Go.Proofs.YtgjlofpfbhioaaaGreatDoor
namespace Go.Proofs.YtgjlofpfbhioaaaGreatDoor
namespace Mini
open Go
variable {m : Int} {X : Ctx}
theorem frn_os (id gen off len sz' : Nat) (cap : Option Nat) (j sz : Nat) (regs : List V) (H : Heap) : frn (.c (.os id gen off len sz' cap)) j sz regs H = ⟨regs, H⟩ := rfl
theorem c47e (hX : XOr m X) {N : Nat} (hN : 7000 ≤ N) {H : Heap} {v : V} {l : List En} (hA : ArgE H v l) (hl : l.length ≤ 4096) {k : Nat} (hk : k < l.length) (hc : (l.getD k e0).chk ≠ 0) (hb : ∀ j, j < k → (l.getD j e0).chk = 0) :
    ∃ t, callN X N (.d (.fn 47 [] [])) [v] H = some (.tup [.c (.d .nils), i64 ((l.getD k e0).chk : Int)], H ++ t) := by
  obtain ⟨N, rfl⟩ : ∃ M, N = M + 1 := ⟨N - 1, by omega⟩
  have hlen := hA.len
  have hgt : ¬ ((l.length : Int) > 4096) := by omega
  rcases it47 hX (N := N) (by omega) hA (by omega) with ⟨h1, _⟩ | ⟨k', h1, h2, h3, hit⟩
  · exact absurd (h1 k hk) hc
  have hkk : k' = k := by
    rcases Nat.lt_trichotomy k' k with h | h | h
    · exact absurd (hb k' h) h2
    · exact h
    · exact absurd (h3 k h) hc
  subst hkk
  refine ⟨[.map (esV (atP l k')), .cells ((l.getD k' e0).ds.map .d) 0 false], ?_⟩
  simp only [R47, atP, esV, List.map_nil, i64, bl, Int.natCast_zero] at hit hlen
  generalize (l.getD k' e0).chk = ch at *
  rw [hX.fn (F := fn47') rfl]
  refine (rf_fin _ _ _ _ _ _ _ _ _ (by rfl)).trans ?_
  simp only [hlen, hgt, hit, esV, i64, List.length_append, List.append_assoc, ↓sp_len, evs, Nat.reduceAdd, Nat.reduceSub, Nat.reduceBEq]
theorem c47 (hX : XOr m X) {N : Nat} (hN : 7000 ≤ N) {H : Heap} {v : V} {l : List En} (hA : ArgE H v l) (hl : l.length ≤ 12) (h0 : 0 < l.length) (hb : ∀ j, j < l.length → (l.getD j e0).chk = 0) :
    ∃ g o, g.Perm (keptJ l l.length l.length) ∧ Asc3 g ∧ callN X N (.d (.fn 47 [] [])) [v] H = some (.tup [.c (.os (H.length + 1) 0 0 g.length 5 (some g.length)), i64 0], H ++ [o, .cells (eC g) 0 false]) := by
  obtain ⟨N, rfl⟩ : ∃ M, N = M + 1 := ⟨N - 1, by omega⟩
  have hlen := hA.len
  have hgt : ¬ ((l.length : Int) > 4096) := by omega
  rcases it47 hX (N := N) (by omega) hA (by omega) with ⟨_, hit⟩ | ⟨k', h1, h2, _⟩
  case inr => exact absurd (hb k' h1) h2
  have hit2 := jt47 hX (N := N) (by omega) hA (by omega) (k := (atP l l.length).length) rfl
  have hel := esV_len (atP l l.length)
  have hkl := kept_len l l.length
  have hal := at_le l l.length
  have hk0 : (atP l l.length).length ≠ 0 := by
    intro h
    have h2 := (lookP_some l l.length 0 h0)
    rw [List.length_eq_zero_iff.1 h] at h2
    obtain ⟨k, h3⟩ := h2
    cases h3
  have hH : Hp (H ++ [Ob.map (esV (atP l l.length)), .cells (eC (keptJ l l.length l.length)) 0 false]).length (H ++ [Ob.map (esV (atP l l.length)), .cells (eC (keptJ l l.length l.length)) 0 false]) := by
    have hlen : (H ++ [Ob.map (esV (atP l l.length)), Ob.cells (eC (keptJ l l.length l.length)) 0 false]).length = H.length + 2 := by simp
    rw [hlen]
    exact (hA.hp.mono (by omega)).app (Hp.cons (uO_map _ _) (Hp.cons (eC_u _ _) Hp.nil))
  obtain ⟨g, p1, p2, h80⟩ := c80 hX (N := N) (by omega) (cap := some (atP l l.length).length) hH (nx2 H _ _) hkl (by omega) (kept_nodup l l.length l.length)
  rw [sx2] at h80
  refine ⟨g, .map (esV (atP l l.length)), p1, p2, ?_⟩
  have hgl : g.length = (atP l l.length).length := by rw [p1.length_eq, hkl]
  rw [hgl]
  have n1 : (H ++ [Ob.map (esV (atP l l.length))])[H.length]? = some (.map (esV (atP l l.length))) := by rw [List.getElem?_append_right (Nat.le_refl _), Nat.sub_self]; rfl
  simp only [R47, S47, atP, i64, bl, cmpV, Int.natCast_zero] at hit hlen hit2 h80
  rw [show esV [] = [] from rfl] at hit
  generalize (atP l l.length).length = k at *
  have g0 : ((k : Int) == 0) = false := by rw [beq_eq_false_iff_ne]; omega
  have k1 : k * 56 ≤ 1099511627776 := by omega
  have k2 : k ≤ 1099511627776 := by omega
  generalize esV (atP l l.length) = ev at *
  generalize eC (keptJ l l.length l.length) = ek at *
  rw [hX.fn (F := fn47') rfl]
  refine (rf_fin _ _ _ _ _ _ _ _ _ (by rfl)).trans ?_
  simp only [hlen, hgt, hit, hit2, h80, hel, n1, g0, k1, k2, i64, ex_fresh, frn_os, rep, Nat.zero_le, List.length_append, List.append_assoc, List.map_cons, List.map_nil, ↓sp_len, evs, Nat.reduceAdd, Nat.reduceSub, Nat.reduceBEq]
end Mini
end Go.Proofs.YtgjlofpfbhioaaaGreatDoor
namespace Go.Proofs.YtgjlofpfbhioaaaGreatDoor
namespace Mini
open Go
variable {m : Int} {X : Ctx}
theorem alike_1 (a b : En) : alikeE [a] [b] ↔ eqE a b := ⟨fun h => h.2 0 (by simp), fun h => ⟨rfl, fun j hj => by
  have : j = 0 := by simpa using hj
  subst this
  exact h⟩⟩
end Mini
end Go.Proofs.YtgjlofpfbhioaaaGreatDoor
