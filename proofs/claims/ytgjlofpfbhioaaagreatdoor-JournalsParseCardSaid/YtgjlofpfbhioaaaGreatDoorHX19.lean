/-
  JournalsParse: texts of the proof, part 20.
-/
import Derived.Test.YtgjlofpfbhioaaaGreatDoorHX18
namespace Go.Proofs.YtgjlofpfbhioaaaGreatDoor
namespace Mini
open Go
variable {m : Int} {X : Ctx}
set_option maxHeartbeats 1000000 in
theorem f41 (hX : XOj m X) {N : Nat} {s : List Nat} (hN : s.length + 200 ≤ N) (hs : s.length < 800000) (hby : ∀ b ∈ s, b < 256) : ∃ (e : En) (b : List Nat) (sm : Int), vcallN X N 41 [strV s] = some (.tup [.agg (e.ds.map .d), strV b, i64 sm, bl (readE s).2.2]) ∧ ((readE s).2.2 = true → e = (readE s).1 ∧ sm = (readE s).2.1 ∧ b = s.take ((lidxN 32 s).getD 0)) := by
  obtain ⟨N, rfl⟩ : ∃ M, N = M + 1 := ⟨N - 1, by omega⟩
  have hF : fnsX 41 = some fn41' := rfl
  have h30 := hX.x.vc (k := 30) (F := fn30) rfl (f30 hX.x (N := N) (c := 32) (by omega) (by omega) hby)
  obtain ⟨hl1, hl2⟩ := splitN_len 32 s
  have hbyq := splitN_byte 32 s hby
  have hbody : ∀ k, lidxN 32 s = some k → k < s.length ∧ (splitN 32 s).getD ((splitN 32 s).length - 1) [] = s.drop (k + 1) := fun k hk => ⟨lidx_lt hk, (lidx_last hk).2⟩
  have hkx : ¬ (splitN 32 s).length < 4 → ∃ k, lidxN 32 s = some k := fun h => by
    cases hl : lidxN 32 s with
    | none => rw [lidx_none hl] at h; exact absurd (by simp) h
    | some k => exact ⟨k, rfl⟩
  unfold readE
  generalize hq : splitN 32 s = q at *
  have hlw := slS_len q
  have hze : (e0.ds.map C.d) = zE := rfl
  simp only [strV, Int.cast_ofNat_Int] at h30
  have none_out : ∀ (b : Bool), b = false → (∃ H, callN X (N + 1) (.d (.fn 41 [] [])) [strV s] [] = some (.tup [.agg zE, strV [], i64 0, bl false], H)) → ∃ (e : En) (b' : List Nat) (sm : Int), vcallN X (N + 1) 41 [strV s] = some (.tup [.agg (e.ds.map .d), strV b', i64 sm, bl b]) := by
    rintro b rfl ⟨H, h⟩
    exact ⟨e0, [], 0, vcall_of (v := .tup [.agg (e0.ds.map .d), strV [], i64 0, bl false]) h rfl⟩
  by_cases c1 : q.length < 4
  · rw [if_pos c1]
    have c1' : (q.length : Int) < 4 := by omega
    obtain ⟨e, b, sm, h⟩ := none_out false rfl (by
      refine ⟨[.cells zE 0 false, .cells zE 0 false], ?_⟩
      rw [hX.fn hF]
      refine (rf_fin _ _ _ _ _ _ _ _ _ (by rfl)).trans ?_
      simp only [zE, ob?, strV, h30, hlw, c1', lay, splice, List.take, List.drop, List.map_cons, List.map_nil, List.set_cons_zero, freeze_nil, reachV, reachC, ite_self, List.flatMap_cons, List.flatMap_nil, ↓sp_len, evs, Nat.reduceAdd, Nat.reduceLeDiff, Nat.reduceSub])
    exact ⟨e, b, sm, h, fun h => by cases h⟩
  rw [if_neg c1]
  have c1' : ¬ (q.length : Int) < 4 := by omega
  obtain ⟨k, hk⟩ := hkx c1
  obtain ⟨hk1, hk2⟩ := hbody k hk
  rw [hk, Option.getD_some]
  have h0 := slS_at q (i := 0) (by omega)
  have h1 := slS_at q (i := 1) (by omega)
  have h2 := slS_at q (i := 2) (by omega)
  have h3 := slS_at q (i := 3) (by omega)
  have hL := slS_at q (i := q.length - 1) (by omega)
  have hw1 : IntKind.i64.wrap ((q.length : Int) - 1) = ((q.length - 1 : Nat) : Int) := by
    rw [← wrap_nat (k := q.length - 1) (by omega)]
    congr 1
    omega
  have hmem : ∀ j, j < q.length → q.getD j [] ∈ q := fun j hj => by
    rw [List.getD_eq_getElem?_getD, List.getElem?_eq_getElem hj]
    exact List.getElem_mem _
  have hlen : ∀ j, j < q.length → (q.getD j []).length ≤ s.length := fun j hj => hl2 _ (hmem j hj)
  have hm2 := hlen 2 (by omega)
  have hm3 := hlen 3 (by omega)
  have hmL := hlen (q.length - 1) (by omega)
  have hsum := hX.vc (k := 76) (F := fn76) rfl (f76 hX (N := N) (s := q.getD (q.length - 1) []) (k := 5) (by omega) (by omega) (by omega) (hbyq _ (hmem _ (by omega))))
  have hat := hX.vc (k := 76) (F := fn76) rfl (f76 hX (N := N) (s := q.getD 3 []) (k := 3) (by omega) (by omega) (by omega) (hbyq _ (hmem _ (by omega))))
  simp only [strV, i64, Int.cast_ofNat_Int] at hsum hat
  have hbl : (q.getD (q.length - 1) []).length = s.length - (k + 1) := by rw [hk2, List.length_drop]
  have hw2 : IntKind.i64.wrap ((s.length : Int) - ((q.getD (q.length - 1) []).length : Int)) = ((k + 1 : Nat) : Int) := by
    rw [← wrap_nat (k := k + 1) (by omega)]
    congr 1
    omega
  have hw3 : IntKind.i64.wrap (((k + 1 : Nat) : Int) - 1) = (k : Int) := by
    rw [← wrap_nat (k := k) (by omega)]
    congr 1
    omega
  have hks : k ≤ s.length := by omega
  have an0' : asNat (.c (.d (.int .i64 0))) = some 0 := rfl
  have an3 : asNat (.c (.d (.int .i64 3))) = some 3 := rfl
  by_cases c5 : q.length = 4 ∨ q.length = 5
  case neg =>
    have c5' : (q.length : Int) > 5 := by omega
    have hfalse : ¬ (numS (q.getD (q.length - 1) []) 5 < 0) → ¬ (q.getD 1 [] = accW ∧ q.length = 4) ∧ ¬ (q.getD 1 [] = rejW ∧ q.length = 5) := fun _ => ⟨fun h => c5 (.inl h.2), fun h => c5 (.inr h.2)⟩
    obtain ⟨e, b, sm, h⟩ := none_out false rfl (by
      refine ⟨[.cells zE 0 false, .cells zE 0 false], ?_⟩
      rw [hX.fn hF]
      refine (rf_fin _ _ _ _ _ _ _ _ _ (by rfl)).trans ?_
      simp only [zE, ob?, strV, h30, hlw, c1', c5', lay, splice, List.take, List.drop, List.map_cons, List.map_nil, List.set_cons_zero, freeze_nil, reachV, reachC, ite_self, List.flatMap_cons, List.flatMap_nil, ↓sp_len, evs, Nat.reduceAdd, Nat.reduceLeDiff, Nat.reduceSub])
    by_cases c2 : numS (q.getD (q.length - 1) []) 5 < 0
    · rw [if_pos c2]
      exact ⟨e, b, sm, h, fun h => by cases h⟩
    · rw [if_neg c2, if_neg (hfalse c2).1, if_neg (hfalse c2).2]
      exact ⟨e, b, sm, h, fun h => by cases h⟩
  have c5' : ¬ (q.length : Int) > 5 := by omega
  have gacc : ∀ t : List Nat, (t == accW) = decide (t = accW) := fun t => beqS _ _
  have grej : ∀ t : List Nat, (t == rejW) = decide (t = rejW) := fun t => beqS _ _
  simp only [accW, rejW] at gacc grej
  by_cases c2 : numS (q.getD (q.length - 1) []) 5 < 0
  · rw [if_pos c2]
    have c2' : ¬ numS (q.getD (q.length - 1) []) 5 ≥ 0 := by omega
    obtain ⟨e, b, sm, h⟩ := none_out false rfl (by
      refine ⟨[.cells zE 0 false, .cells zE 0 false, .cells [.d (.str (q.getD 0 [])), .d (.bool false), .d (.int .u8 0), .d (.int .i64 0), .d .nils] 0 false], ?_⟩
      rw [hX.fn hF]
      refine (rf_fin _ _ _ _ _ _ _ _ _ (by rfl)).trans ?_
      generalize numS (q.getD (q.length - 1) []) 5 = st at *
      simp only [zE, ob?, strV, optNat, h30, hlw, c1', c5', c2', h0, hL, hw1, hw2, hw3, hks, hsum, lay, splice, Option.map_none, Option.map_some, List.take, List.drop, List.map_cons, List.map_nil, List.set_cons_zero, freeze_nil, reachV, reachC, ite_self, List.flatMap_cons, List.flatMap_nil, Nat.zero_le, ↓sp_len, ↓sp_ixa, evs, Nat.reduceAdd, Nat.reduceLeDiff, Nat.reduceSub])
    exact ⟨e, b, sm, h, fun h => by cases h⟩
  rw [if_neg c2]
  have c2' : numS (q.getD (q.length - 1) []) 5 ≥ 0 := by omega
  generalize hst : numS (q.getD (q.length - 1) []) 5 = st at *
  generalize hx3 : numS (q.getD 3 []) 3 = x3 at *
  rcases c5 with hn | hn
  · have hsl : q.length - 1 = 3 := by omega
    rw [hsl] at hL hw1 hsum hw2 hk2 hbl hst
    rw [hn] at hlw hw1 c1' c5'
    have g4 : ((4 : Int) == 4) = true := rfl
    have g5 : ((4 : Int) == 5) = false := rfl
    have g14 : ¬ (4 : Int) < 4 := by omega
    have g15 : ¬ (4 : Int) > 5 := by omega
    have gw : IntKind.i64.wrap (4 - 1) = 3 := rfl
    by_cases c3 : q.getD 1 [] = accW
    · rw [if_pos ⟨c3, hn⟩]
      rw [c3] at h1
      have gs : (accW == accW) = true := by simp
      have ht := hbyq _ (hmem 2 (by omega))
      have h44 := hX.x.vc (k := 30) (F := fn30) rfl (f30 hX.x (N := N) (s := q.getD 2 []) (c := 44) (by omega) (by omega) ht)
      obtain ⟨hp1, hp2⟩ := splitN_len 44 (q.getD 2 [])
      have hbyp := splitN_byte 44 _ ht
      simp only [strV, Int.cast_ofNat_Int] at h44
      simp only [accW] at h1 gs
      by_cases c4 : q.getD 2 [] = [45]
      · rw [if_pos c4]
        rw [c4] at h2
        have gd : (([45] : List Nat) == [45]) = true := by simp
        generalize q.getD 0 [] = q0 at *
        refine ⟨⟨q0, true, 0, 0, .nils, []⟩, s.take k, st, vcall_of (r := .tup [.agg [.d (.str q0), .d (.bool true), .d (.int .u8 0), .d (.int .i64 0), .d .nils], strV (s.take k), i64 st, bl true]) (H := [.cells [.d (.str q0), .d (.bool true), .d (.int .u8 0), .d (.int .i64 0), .d .nils] 0 false, .cells zE 0 false, .cells [.d (.str q0), .d (.bool true), .d (.int .u8 0), .d (.int .i64 0), .d .nils] 0 false]) ?_ rfl, fun _ => ⟨rfl, hst.symm, rfl⟩⟩
        rw [hX.fn hF]
        refine (rf_fin _ _ _ _ _ _ _ _ _ (by rfl)).trans ?_
        simp only [zE, ob?, strV, binStr, optNat, h30, hlw, g14, g15, c2', h0, h1, h2, hL, hw2, hw3, hks, gw, gs, gd, g4, an3, hsum, Int.cast_ofNat_Int, lay, splice, Option.map_none, Option.map_some, List.take, List.drop, List.map_cons, List.map_nil, List.set_cons_zero, List.set_cons_succ, freeze_nil, reachV, reachC, ite_self, List.flatMap_cons, List.flatMap_nil, Nat.zero_le, ↓sp_len, ↓sp_ixa, evs, Nat.reduceAdd, Nat.reduceLeDiff, Nat.reduceSub]
      rw [if_neg c4]
      have gd : (q.getD 2 [] == [45]) = false := by rw [beqS]; exact decide_eq_false c4
      have hio2 : itemsOk (splitN 44 (q.getD 2 [])) ↔ itemsOk (splitN 44 (q.getD 2 [])) := Iff.rfl
      unfold osJ
      generalize q.getD 2 [] = tt at *
      generalize splitN 44 tt = ps at *
      have hit := it41b hX (N := N) (q := q) (ps := ps) (st := st) (b := s.take k) (nm := q.getD 0 []) (by omega) (by omega) (fun x hx => ⟨by have := hp2 x hx; omega, by have := hp2 x hx; omega⟩) hbyp
      have hfr : exec (zenv X N) N false (.fresh 10 (some 4) 17) ⟨[strV s, .c (.ptr 0 0 0), strV [], i64 0, bl false, .c (.d (slS q)), i64 4, .c (.ptr 1 0 0), i64 st, strV (s.take k), .c (.ptr 2 0 0), .c (.d (slS ps)), i64 0, .any, .any, .any, bl false, bl true, bl false, .any, .any, .any, .any, .any], [.cells zE 0 false, .cells zE 0 false, .cells (enK (q.getD 0 []) (.d .nils)) 0 false]⟩ = some (.nrm, ⟨[strV s, .c (.ptr 0 0 0), strV [], i64 0, bl false, .c (.d (slS q)), i64 4, .c (.ptr 1 0 0), i64 st, strV (s.take k), .c (.ptr 2 0 0), .c (.d (slS ps)), i64 0, .any, .any, .any, bl false, bl true, bl false, .any, .any, .any, .any, .any], hp41b (q.getD 0 []) ps 0⟩) := rfl
      have hh0 : (hp41b (q.getD 0 []) ps 0).length = 4 := rfl
      rcases hit with ⟨hio, hit⟩ | ⟨hio, s', hit, q1, q2, q3, q4, t, q5⟩
      · rw [if_pos hio]
        have hwf := osP_wf ps ps.length
        have hol := osP_len ps (Nat.le_refl _)
        have hfl := flC_len hwf
        rw [hol] at hfl
        have hdp : ∀ x0 x1 x2 : Ob, deepC [x0, x1, x2, .cells (flC (osP ps ps.length)) ps.length false] deepMax (.os 3 ps.length 0 ps.length 17 none) = some (slO (osP ps ps.length)) := by
          intro x0 x1 x2
          have p2 : ((flC (osP ps ps.length)).drop 0).take (ps.length * 17) = ((osP ps ps.length).flatMap oD).map .d := by
            rw [List.drop_zero, List.take_of_length_le (by omega)]; rfl
          have p1 : 0 + ps.length * 17 ≤ (flC (osP ps ps.length)).length := by omega
          simp only [deepMax, deepC, ob?, if_true, if_pos p1, p2, mapO_d, Option.map_some]
          rw [slO, hol]
        unfold hp41b at hit hfr hh0
        generalize osP ps ps.length = os at *
        generalize osP ps 0 = os0 at *
        generalize q.getD 0 [] = q0 at *
        refine ⟨⟨q0, true, 0, 0, slO os, os⟩, s.take k, st, vcall_of (v := .tup [.agg (enK q0 (.d (slO os))), strV (s.take k), i64 st, bl true]) (r := .tup [.agg (enK q0 (.os 3 ps.length 0 ps.length 17 none)), strV (s.take k), i64 st, bl true]) (H := [.cells (enK q0 (.os 3 ps.length 0 ps.length 17 none)) 0 false, .cells zE 0 false, .cells (enK q0 (.os 3 ps.length 0 ps.length 17 none)) 0 false, .cells (flC os) ps.length false]) ?_ ?_, fun _ => ⟨rfl, hst.symm, rfl⟩⟩
        · rw [hX.fn hF]
          refine (rf_fin _ _ _ _ _ _ _ _ _ (by rfl)).trans ?_
          simp only [strV, bl, i64, enK, R41b, zE, Int.natCast_zero] at hfr hit
          simp only [enK, zE, ob?, strV, binStr, optNat, h30, h44, hlw, g14, g15, c2', h0, h1, h2, hL, hw2, hw3, hks, gw, gs, gd, g4, an3, hsum, hfr, hit, Int.cast_ofNat_Int, lay, splice, Option.map_none, Option.map_some, List.take, List.drop, List.map_cons, List.map_nil, List.set_cons_zero, List.set_cons_succ, freeze_nil, reachV, reachC, ite_self, List.flatMap_cons, List.flatMap_nil, Nat.zero_le, ↓sp_len, ↓sp_ixa, evs, Nat.reduceAdd, Nat.reduceLeDiff, Nat.reduceBEq, Nat.reduceSub]
        · simp only [enK, deepV, mapO, deepV1, hdp, bl, i64, strV]
          rfl
      · rw [if_neg hio]
        obtain ⟨r, HH⟩ := s'
        simp only at q1 q2 q3 q4 q5
        subst q5
        obtain ⟨e, b, sm, h⟩ := none_out false rfl (by
          refine ⟨.cells zE 0 false :: t, ?_⟩
          rw [hX.fn hF]
          refine (rf_fin _ _ _ _ _ _ _ _ _ (by rfl)).trans ?_
          generalize hp41b (q.getD 0 []) ps 0 = H0 at *
          generalize q.getD 0 [] = q0 at *
          simp only [strV, bl, i64, enK, R41b, zE, Int.natCast_zero] at hfr hit q2 q3 q4
          simp only [zE, ob?, strV, binStr, optNat, h30, h44, hlw, g14, g15, c2', h0, h1, h2, hL, hw2, hw3, hks, gw, gs, gd, g4, an3, hsum, hfr, hh0, hit, q1, q2, q3, q4, Int.cast_ofNat_Int, lay, splice, Option.map_none, Option.map_some, List.take, List.drop, List.map_cons, List.map_nil, List.set_cons_zero, List.set_cons_succ, freeze_nil, reachV, reachC, ite_self, List.flatMap_cons, List.flatMap_nil, Nat.zero_le, ↓sp_len, ↓sp_ixa, evs, Nat.reduceAdd, Nat.reduceLeDiff, Nat.reduceBEq, Nat.reduceSub])
        exact ⟨e, b, sm, h, fun h => by cases h⟩
    · rw [if_neg (fun h => c3 h.1), if_neg (fun h => by omega)]
      have gs := (gacc (q.getD 1 [])).trans (decide_eq_false c3)
      obtain ⟨e, b, sm, h⟩ := none_out false rfl (by
        refine ⟨[.cells zE 0 false, .cells zE 0 false, .cells [.d (.str (q.getD 0 [])), .d (.bool false), .d (.int .u8 0), .d (.int .i64 0), .d .nils] 0 false], ?_⟩
        rw [hX.fn hF]
        refine (rf_fin _ _ _ _ _ _ _ _ _ (by rfl)).trans ?_
        generalize q.getD 0 [] = q0 at *
        simp only [zE, ob?, strV, binStr, optNat, h30, hlw, g14, g15, c2', h0, h1, hL, hw2, hw3, hks, gw, gs, g4, g5, an3, hsum, Int.cast_ofNat_Int, lay, splice, Option.map_none, Option.map_some, List.take, List.drop, List.map_cons, List.map_nil, List.set_cons_zero, freeze_nil, reachV, reachC, ite_self, List.flatMap_cons, List.flatMap_nil, Nat.zero_le, ↓sp_len, ↓sp_ixa, evs, Nat.reduceAdd, Nat.reduceLeDiff, Nat.reduceSub])
      exact ⟨e, b, sm, h, fun h => by cases h⟩
  · have hsl : q.length - 1 = 4 := by omega
    rw [hsl] at hL hw1 hsum hw2 hk2 hbl hst
    rw [hn] at hlw hw1 c1' c5'
    have g4 : ((5 : Int) == 4) = false := rfl
    have g5 : ((5 : Int) == 5) = true := rfl
    have g14 : ¬ (5 : Int) < 4 := by omega
    have g15 : ¬ (5 : Int) > 5 := by omega
    have gw : IntKind.i64.wrap (5 - 1) = 4 := rfl
    have an4 : asNat (.c (.d (.int .i64 4))) = some 4 := rfl
    rw [if_neg (fun h => by omega)]
    by_cases c3 : q.getD 1 [] = rejW
    · rw [if_pos ⟨c3, hn⟩]
      rw [c3] at h1
      have gs : (rejW == rejW) = true := by simp
      have hit := it41a hX (N := N) (by omega) (q := q) (st := st) (b := s.take k) (nm := q.getD 0 []) (by omega)
      have hrl := rvJ_le (q.getD 2 []) 3
      generalize rvJ (q.getD 2 []) 3 = rv at *
      generalize q.getD 0 [] = q0 at *
      have p1 : apart (.c (.ptr 2 0 3)) (.c (.ptr 0 0 0)) = true := rfl
      have p0 : apart (.tup []) (.c (.ptr 0 0 0)) = true := rfl
      have grv : ((rv : Int) != 0) = decide (rv ≠ 0) := by
        by_cases h : rv = 0
        · subst h; rfl
        · rw [decide_eq_true h, bne_iff_ne]; omega
      simp only [rejW] at h1 gs
      simp only [R41a, hp41a, strV, i64, zE, Int.natCast_zero, Int.natCast_one] at hit
      have hres : ∃ H, callN X (N + 1) (.d (.fn 41 [] [])) [strV s] [] = some (.tup [.agg [.d (.str q0), .d (.bool false), .d (.int .u8 (rv : Int)), .d (.int .i64 x3), .d .nils], strV (s.take k), i64 st, bl (decide (rv ≠ 0) && decide (0 ≤ x3))], H) := by
        refine ⟨[.cells [.d (.str q0), .d (.bool false), .d (.int .u8 (rv : Int)), .d (.int .i64 x3), .d .nils] 0 false, .cells zE 0 false, .cells [.d (.str q0), .d (.bool false), .d (.int .u8 (rv : Int)), .d (.int .i64 x3), .d .nils] 0 false], ?_⟩
        rw [hX.fn hF]
        refine (rf_fin _ _ _ _ _ _ _ _ _ (by rfl)).trans ?_
        by_cases hr0 : rv = 0
        · rw [decide_eq_false (by simpa using hr0)] at grv ⊢
          simp only [zE, ob?, strV, binStr, optNat, rg_ap, p0, grv, h30, hlw, g14, g15, c2', h0, h1, h3, hL, hw2, hw3, hks, gw, gs, g4, g5, an3, an4, hsum, hat, hit, Int.cast_ofNat_Int, lay, splice, Option.map_none, Option.map_some, List.take, List.drop, List.map_cons, List.map_nil, List.set_cons_zero, List.set_cons_succ, freeze_nil, reachV, reachC, ite_self, List.flatMap_cons, List.flatMap_nil, Nat.zero_le, Bool.false_and, ↓sp_len, ↓sp_ixa, evs, Nat.reduceAdd, Nat.reduceLeDiff, Nat.reduceBEq, Nat.reduceSub]
        · rw [decide_eq_true hr0] at grv ⊢
          have gx : decide (x3 ≥ 0) = decide (0 ≤ x3) := rfl
          simp only [zE, ob?, strV, binStr, optNat, rg_ap, p1, grv, gx, h30, hlw, g14, g15, c2', h0, h1, h3, hL, hw2, hw3, hks, gw, gs, g4, g5, an3, an4, hsum, hat, hit, Int.cast_ofNat_Int, lay, splice, Option.map_none, Option.map_some, List.take, List.drop, List.map_cons, List.map_nil, List.set_cons_zero, List.set_cons_succ, freeze_nil, reachV, reachC, ite_self, List.flatMap_cons, List.flatMap_nil, Nat.zero_le, Bool.true_and, ↓sp_len, ↓sp_ixa, evs, Nat.reduceAdd, Nat.reduceLeDiff, Nat.reduceBEq, Nat.reduceSub]
      obtain ⟨H, hres⟩ := hres
      have hres := vcall_of (v := .tup [.agg [.d (.str q0), .d (.bool false), .d (.int .u8 (rv : Int)), .d (.int .i64 x3), .d .nils], strV (s.take k), i64 st, bl (decide (rv ≠ 0) && decide (0 ≤ x3))]) hres rfl
      by_cases c6 : rv = 0 ∨ x3 < 0
      · rw [if_pos c6]
        have : (decide (rv ≠ 0) && decide (0 ≤ x3)) = false := by
          rw [Bool.and_eq_false_iff, decide_eq_false_iff_not, decide_eq_false_iff_not]
          omega
        rw [this] at hres
        exact ⟨⟨q0, false, rv, x3, .nils, []⟩, _, _, hres, fun h => by cases h⟩
      · rw [if_neg c6]
        have : (decide (rv ≠ 0) && decide (0 ≤ x3)) = true := by
          rw [Bool.and_eq_true, decide_eq_true_eq, decide_eq_true_eq]
          omega
        rw [this] at hres
        refine ⟨⟨q0, false, rv, x3, .nils, []⟩, _, _, hres, fun _ => ⟨rfl, ?_, rfl⟩⟩
        exact hst.symm
    · rw [if_neg (fun h => c3 h.1)]
      have gs := (grej (q.getD 1 [])).trans (decide_eq_false c3)
      obtain ⟨e, b, sm, h⟩ := none_out false rfl (by
        refine ⟨[.cells zE 0 false, .cells zE 0 false, .cells [.d (.str (q.getD 0 [])), .d (.bool false), .d (.int .u8 0), .d (.int .i64 0), .d .nils] 0 false], ?_⟩
        rw [hX.fn hF]
        refine (rf_fin _ _ _ _ _ _ _ _ _ (by rfl)).trans ?_
        generalize q.getD 0 [] = q0 at *
        simp only [zE, ob?, strV, binStr, optNat, h30, hlw, g14, g15, c2', h0, h1, hL, hw2, hw3, hks, gw, gs, g4, g5, an4, hsum, Int.cast_ofNat_Int, lay, splice, Option.map_none, Option.map_some, List.take, List.drop, List.map_cons, List.map_nil, List.set_cons_zero, freeze_nil, reachV, reachC, ite_self, List.flatMap_cons, List.flatMap_nil, Nat.zero_le, ↓sp_len, ↓sp_ixa, evs, Nat.reduceAdd, Nat.reduceLeDiff, Nat.reduceSub])
      exact ⟨e, b, sm, h, fun h => by cases h⟩
end Mini
end Go.Proofs.YtgjlofpfbhioaaaGreatDoor
namespace Go.Proofs.YtgjlofpfbhioaaaGreatDoor
namespace Mini
open Go
variable {m : Int} {X : Ctx}
theorem alike_new (l : List En) : alikeE (l.map newE) l := by
  refine ⟨List.length_map _, fun j hj => ?_⟩
  rw [List.length_map] at hj
  have : (l.map newE).getD j e0 = newE (l.getD j e0) := by
    rw [List.getD_eq_getElem?_getD, List.getElem?_map, List.getElem?_eq_getElem hj, List.getD_eq_getElem?_getD, List.getElem?_eq_getElem hj]; rfl
  rw [this]
  exact ⟨rfl, rfl, rfl, rfl, rfl⟩
theorem wf_new {l : List En} (h : wfEs l) : wfEs (l.map newE) := fun e he => by
  obtain ⟨x, hx, rfl⟩ := List.mem_map.1 he
  exact ⟨exD_is _, (h x hx).2⟩
end Mini
end Go.Proofs.YtgjlofpfbhioaaaGreatDoor
namespace Go.Proofs.YtgjlofpfbhioaaaGreatDoor
namespace Mini
open Go
variable {m : Int} {X : Ctx}
abbrev X12 (s : List Nat) (ls : List (List Nat)) (n i u la pl bad : Nat) (x9 x10 x11 x12 x21 x22 x23 x24 : V) : List V := [strV s, .any, .c (.d (slS ls)), .c (.os 0 n 0 n 5 none), i64 (u : Int), i64 (la : Int), i64 (pl : Int), i64 (bad : Int), i64 (i : Int), x9, x10, x11, x12, .any, .any, .any, .any, .any, .any, .any, .any, x21, x22, x23, x24, .any, .any]
abbrev R12 (s : List Nat) (ls : List (List Nat)) (n i u la : Nat) : List V := X12 s ls n i u la 0 0 .any .any .any .any .any .any .any .any
def errP (la : Nat) (x : List Nat) : Nat := if (readE x).2.2 = false then 6 else if (readE x).1.chk ≠ 0 then (readE x).1.chk else if ((sumL la x : Nat) : Int) ≠ (readE x).2.1 then 24 else 0
set_option maxHeartbeats 2000000 in
theorem r12 (hX : XOj m X) {N : Nat} (hN : 3000 ≤ N) {s : List Nat} {ls : List (List Nat)} {l : List En} {u la : Nat} (hi : l.length + 1 < ls.length) (hls : ls.length < 1000) (hx : (ls.getD l.length []).length ≤ 400) (hby : ∀ b ∈ ls.getD l.length [], b < 256) (hu : u < 100000) (hla : la < 65521) :
    (errP la (ls.getD l.length []) = 0 → ∃ s', exec (zenv X N) N false fn12L0 ⟨R12 s ls l.length l.length u la, [.cells (eC l) l.length false]⟩ = some (.nrm, s') ∧ tidy 1 (some [0, 2, 3, 4, 5, 6, 7, 8]) s' = ⟨R12 s ls (l.length + 1) (l.length + 1) (u + (ls.getD l.length []).length + 1) (sumL la (ls.getD l.length [])), [.cells (eC (l ++ [(readE (ls.getD l.length [])).1])) (l.length + 1) false]⟩) ∧
    (errP la (ls.getD l.length []) ≠ 0 → ∃ x9 x10 x11 x12 x21 x22 x23 x24 t, exec (zenv X N) N false fn12L0 ⟨R12 s ls l.length l.length u la, [.cells (eC l) l.length false]⟩ = some (.exit 0, ⟨X12 s ls l.length l.length u la (l.length + 1) (errP la (ls.getD l.length [])) x9 x10 x11 x12 x21 x22 x23 x24, .cells (eC l) l.length false :: t⟩)) := by
  have hlw := slS_len ls
  have hat := slS_at ls (i := l.length) (by omega)
  have w1 : IntKind.i64.wrap ((ls.length : Int) - 1) = ((ls.length - 1 : Nat) : Int) := by rw [← wrap_nat (k := ls.length - 1) (by omega)]; congr 1; omega
  have h4 : (l.length : Int) < ((ls.length - 1 : Nat) : Int) := by omega
  have h6 := wrap_succ (k := l.length) (by omega)
  obtain ⟨e, b, sm, h41, hok⟩ := f41 hX (N := N) (s := ls.getD l.length []) (by omega) (by omega) hby
  have h41 := hX.vc (k := 41) (F := fn41) rfl h41
  obtain ⟨r1, r2, r3, r4, r5⟩ := readE_ok (s := ls.getD l.length [])
  have hal := eC_len l
  have htk : (eC l).take (l.length * 5) = eC l := List.take_of_length_le (by omega)
  have k1 : l.length + 1 ≤ 1073741824 := by omega
  have k2 : l.length + 1 < genK := by show l.length + 1 < 1000000; omega
  have g00 : ((0 : Int) == 0) = true := rfl
  have g60 : ((6 : Int) != 0) = true := rfl
  have g24 : ((24 : Int) != 0) = true := rfl
  have g0n : ((0 : Int) != 0) = false := rfl
  have hlx : ((ls.getD l.length []).length : Int) = ((ls.getD l.length []).length : Nat) := rfl
  unfold errP sumL
  generalize hX0 : ls.getD l.length [] = x at *
  cases hr : (readE x).2.2
  · rw [if_pos rfl]
    refine ⟨(fun h => by cases h), fun _ => ?_⟩
    rw [hr] at h41
    simp only [strV, bl, i64, En.ds, List.map_cons, List.map_nil] at h41
    refine ⟨.c (.ptr 1 0 0), strV b, i64 sm, bl false, bl true, bl true, .any, bl true, [.cells [.d (.str e.s), .d (.bool e.acc), .d (.int .u8 (e.r : Int)), .d (.int .i64 e.t), .d e.w] 0 false], ?_⟩
    simp only [fn12L0, R12, X12, strV, hlw, hat, w1, h4, h6, h41, g00, g60, Int.cast_ofNat_Int, Bool.not_false, List.take, List.map_cons, List.map_nil, List.cons_append, List.nil_append, freeze_nil, reachV, reachC, ite_self, List.flatMap_cons, List.flatMap_nil, ↓sp_len, ↓sp_ixa, evs, Nat.reduceAdd, reduceCtorEq]
  obtain ⟨rfl, rfl, hb⟩ := hok hr
  obtain ⟨k, hk, hka⟩ := r5 hr
  rw [hk, Option.getD_some] at hb ⊢
  subst hb
  rw [hr] at h41
  have h45 := hX.vc (k := 45) (F := fn45) rfl (f45 hX (N := N) (s := (readE x).1.s) (acc := (readE x).1.acc) (r := (readE x).1.r) (t := (readE x).1.t) (w := (readE x).1.w) (l := (readE x).1.l) (by omega) (by omega) r1 r2 (by omega))
  have htl : (x.take k).length ≤ x.length := by rw [List.length_take]; omega
  have h46 := hX.vc (k := 46) (F := fn46) rfl (f46 hX (N := N) (s := x.take k) (a := la) (by omega) hla (fun c hc => hby c (List.mem_of_mem_take hc)) (by omega))
  have hck : chkE (readE x).1.s (readE x).1.acc (readE x).1.r (readE x).1.t (readE x).1.l = (readE x).1.chk := rfl
  rw [hck] at h45
  rw [if_neg (by simp)]
  generalize (readE x).2.1 = st at *
  generalize (readE x).1 = e at *
  generalize x.take k = bo at *
  generalize sumN la bo = sn at *
  simp only [strV, bl, i64, En.ds, enC, List.map_cons, List.map_nil] at h41 h45 h46
  by_cases hz : e.chk = 0
  case neg =>
    rw [if_pos hz]
    refine ⟨fun h => absurd h hz, fun _ => ?_⟩
    have q1 : ((e.chk : Int) == 0) = false := by rw [beq_eq_false_iff_ne]; omega
    have q2 : ((e.chk : Int) != 0) = true := by rw [bne_iff_ne]; omega
    generalize e.chk = ck at *
    refine ⟨.c (.ptr 1 0 0), strV bo, i64 st, bl true, bl true, bl false, bl false, bl true, [.cells [.d (.str e.s), .d (.bool e.acc), .d (.int .u8 (e.r : Int)), .d (.int .i64 e.t), .d e.w] 0 false], ?_⟩
    simp only [fn12L0, R12, X12, ob?, strV, hlw, hat, w1, h4, h6, h41, h45, g00, q1, q2, Int.natCast_zero, Bool.not_true, List.take, List.drop, List.map_cons, List.map_nil, List.cons_append, List.nil_append, freeze_nil, reachV, reachC, ite_self, List.flatMap_cons, List.flatMap_nil, ↓sp_len, ↓sp_ixa, evs, Nat.reduceAdd, reduceCtorEq]
  rw [hz] at h45
  rw [if_neg (by rw [hz]; simp)]
  by_cases hs : ((sn : Nat) : Int) ≠ st
  · rw [if_pos hs]
    refine ⟨(fun h => by cases h), fun _ => ?_⟩
    have q1 : ((sn : Int) != st) = true := by rw [bne_iff_ne]; exact hs
    refine ⟨.c (.ptr 1 0 0), strV bo, i64 st, bl true, bl true, bl false, bl true, bl true, [.cells [.d (.str e.s), .d (.bool e.acc), .d (.int .u8 (e.r : Int)), .d (.int .i64 e.t), .d e.w] 0 false], ?_⟩
    simp only [fn12L0, R12, X12, ob?, strV, hlw, hat, w1, h4, h6, h41, h45, h46, g00, g24, q1, Int.cast_ofNat_Int, Bool.not_true, List.take, List.drop, List.map_cons, List.map_nil, List.cons_append, List.nil_append, freeze_nil, reachV, reachC, ite_self, List.flatMap_cons, List.flatMap_nil, ↓sp_len, ↓sp_ixa, evs, Nat.reduceAdd, reduceCtorEq]
  · rw [if_neg hs]
    refine ⟨fun _ => ?_, fun h => absurd rfl h⟩
    have hs' := Decidable.not_not.1 hs
    subst hs'
    have q1 : ((sn : Int) != (sn : Int)) = false := by simp
    have w2 : IntKind.i64.wrap ((u : Int) + (x.length : Int)) = ((u + x.length : Nat) : Int) := by rw [← wrap_nat (k := u + x.length) (by omega)]; simp
    have w3 := wrap_succ (k := u + x.length) (by omega)
    have hd := eC_d l
    have hap : eC (l ++ [e]) = eC l ++ [.d (.str e.s), .d (.bool e.acc), .d (.int .u8 (e.r : Int)), .d (.int .i64 e.t), .d e.w] := by rw [eC_snoc]; rfl
    rw [hap]
    refine ⟨⟨[strV s, .any, .c (.d (slS ls)), .c (.os 0 (l.length + 1) 0 (l.length + 1) 5 none), i64 ((u + x.length + 1 : Nat) : Int), i64 (sn : Int), i64 ((0 : Nat) : Int), i64 ((0 : Nat) : Int), i64 ((l.length + 1 : Nat) : Int), .c (.ptr 1 0 0), strV bo, i64 (sn : Int), bl true, .any, .any, .any, .any, .any, .any, .any, .any, bl true, bl false, bl false, bl false, .any, .any], [.cells (eC l ++ [.d (.str e.s), .d (.bool e.acc), .d (.int .u8 (e.r : Int)), .d (.int .i64 e.t), .d e.w]) (l.length + 1) false] ++ [.cells [.d (.str e.s), .d (.bool e.acc), .d (.int .u8 (e.r : Int)), .d (.int .i64 e.t), .d e.w] 0 false, .cells [.d (.str e.s), .d (.bool e.acc), .d (.int .u8 (e.r : Int)), .d (.int .i64 e.t), .d e.w] 0 false]⟩, ?_, ?_⟩
    · simp only [fn12L0, R12, X12, ob?, strV, elems, lay, rep, splice, hlw, hat, w1, w2, w3, h4, h6, h41, h45, h46, hal, htk, k1, k2, g00, g0n, q1, Int.natCast_zero, Bool.not_true, Nat.one_ne_zero, Nat.le_refl, List.take, List.drop, List.map_cons, List.map_nil, List.set_cons_zero, List.cons_append, List.nil_append, freeze_nil, reachV, reachC, ite_self, List.flatMap_cons, List.flatMap_nil, ↓sp_len, ↓sp_ixa, evs, Nat.reduceAdd]
    · refine tidy_back rfl rfl rfl (Hp.cons ?_ Hp.nil)
      simp only [uO, List.all_append, Bool.and_eq_true]
      refine ⟨?_, rfl⟩
      rw [List.all_eq_true] at hd ⊢
      intro c hc
      have := hd c hc
      cases c <;> first | rfl | cases this
end Mini
end Go.Proofs.YtgjlofpfbhioaaaGreatDoor
namespace Go.Proofs.YtgjlofpfbhioaaaGreatDoor
namespace Mini
open Go
variable {m : Int} {X : Ctx}
theorem r12_end {N : Nat} {s : List Nat} {ls : List (List Nat)} {n u la : Nat} {H : Heap} (hi : n + 1 = ls.length) (hls : ls.length < 1000) : exec (zenv X N) N false fn12L0 ⟨R12 s ls n n u la, H⟩ = some (.exit 0, ⟨X12 s ls n n u la 0 0 .any .any .any .any (bl false) .any .any .any, H⟩) := by
  have hlw := slS_len ls
  have w1 : IntKind.i64.wrap ((ls.length : Int) - 1) = ((ls.length - 1 : Nat) : Int) := by rw [← wrap_nat (k := ls.length - 1) (by omega)]; congr 1; omega
  have h4 : ¬ (n : Int) < ((ls.length - 1 : Nat) : Int) := by omega
  simp only [fn12L0, R12, X12, hlw, w1, h4, ↓sp_len, evs]
theorem parseJ_errP {f : Nat} {l : List En} {u la : Nat} {s : List Nat} {i : Nat} (hi : idxN 10 s = some i) (hl : l.length ≠ 4096) : parseJ (f + 1) l u la s = if errP la (s.take i) = 0 then parseJ f (l ++ [newE (readE (s.take i)).1]) (u + i + 1) (sumL la (s.take i)) (s.drop (i + 1)) else (l, u, la, errP la (s.take i)) := by
  rw [parseJ, hi]
  simp only
  rw [if_neg hl]
  unfold errP
  split
  · rw [if_neg (by simp)]
  split
  · rfl
  split
  · rw [if_neg (by simp)]
  · rw [if_pos rfl]
theorem errP_zero {la : Nat} {x : List Nat} (h : errP la x = 0) : (readE x).1.chk = 0 := by
  unfold errP at h
  split at h
  · cases h
  split at h
  · exact h
  · rename_i h2; exact Decidable.not_not.1 h2
theorem sumL_lt {la : Nat} (h : la < 65521) (x : List Nat) : sumL la x < 65521 := sumN_lt _ h
theorem it12 (hX : XOj m X) {N : Nat} (hN : 3000 ≤ N) {s : List Nat} (hs : s.length ≤ 400) (hby : ∀ b ∈ s, b < 256) : ∀ (f fuel : Nat) (l : List En) (u la : Nat), (restN 10 s l.length).length < f → f ≤ fuel → l.length < (splitN 10 s).length → u + (restN 10 s l.length).length = s.length → la < 65521 → wfEs l → (∀ e ∈ l, e.chk = 0) →
    ∃ lst u2 la2 pl bad x9 x10 x11 x12 x21 x22 x23 x24 t, iter (some [0, 2, 3, 4, 5, 6, 7, 8]) 1 (exec (zenv X N) N false fn12L0) fuel ⟨R12 s (splitN 10 s) l.length l.length u la, [.cells (eC l) l.length false]⟩ = some (.exit 0, ⟨X12 s (splitN 10 s) lst.length lst.length u2 la2 pl bad x9 x10 x11 x12 x21 x22 x23 x24, .cells (eC lst) lst.length false :: t⟩) ∧
      parseJ f (l.map newE) u la (restN 10 s l.length) = (lst.map newE, u2, la2, bad) ∧ pl = (if bad = 0 then 0 else lst.length + 1) ∧ wfEs lst ∧ (∀ e ∈ lst, e.chk = 0) ∧ lst.length ≤ 400 := by
  intro f
  induction f with
  | zero => intro fuel l u la h; exact absurd h (Nat.not_lt_zero _)
  | succ f ih =>
    intro fuel l u la hf hfu hl hu hla hwf hck
    obtain ⟨fuel, rfl⟩ : ∃ k, fuel = k + 1 := ⟨fuel - 1, by omega⟩
    obtain ⟨hl1, hl2⟩ := splitN_len 10 s
    by_cases hlast : l.length + 1 = (splitN 10 s).length
    · obtain ⟨hi, _⟩ := restN_last 10 s
      rw [show (splitN 10 s).length - 1 = l.length by omega] at hi
      refine ⟨l, u, la, 0, 0, .any, .any, .any, .any, bl false, .any, .any, .any, [], iter_stop (r12_end hlast (by omega)), ?_, rfl, hwf, hck, by omega⟩
      rw [parseJ, hi]
    · have hxm : (splitN 10 s).getD l.length [] ∈ splitN 10 s := by
        rw [List.getD_eq_getElem?_getD, List.getElem?_eq_getElem hl]; exact List.getElem_mem _
      have hxl := hl2 _ hxm
      have hxb := splitN_byte 10 s hby _ hxm
      obtain ⟨i, j1, j2, j3, j4⟩ := restN_round 10 s l.length (by omega)
      have hil : ((splitN 10 s).getD l.length []).length = i := by rw [← j3, List.length_take]; omega
      obtain ⟨ra, rb⟩ := r12 hX hN (s := s) (ls := splitN 10 s) (l := l) (u := u) (la := la) (by omega) (by omega) (by omega) hxb (by omega) hla
      have hp := parseJ_errP (f := f) (l := l.map newE) (u := u) (la := la) j1 (by rw [List.length_map]; omega)
      rw [j3, j4] at hp
      rw [hp]
      by_cases he : errP la ((splitN 10 s).getD l.length []) = 0
      · rw [if_pos he]
        obtain ⟨s', h1, h2⟩ := ra he
        obtain ⟨w1, w2, _⟩ := readE_ok (s := (splitN 10 s).getD l.length [])
        have hal : (l ++ [(readE ((splitN 10 s).getD l.length [])).1]).length = l.length + 1 := by simp
        have hdl : (restN 10 s (l.length + 1)).length = (restN 10 s l.length).length - (i + 1) := by rw [← j4, List.length_drop]
        have := ih fuel (l ++ [(readE ((splitN 10 s).getD l.length [])).1]) (u + i + 1) (sumL la ((splitN 10 s).getD l.length [])) (by rw [hal]; omega) (by omega) (by rw [hal]; omega) (by rw [hal]; omega) (sumL_lt hla _) (fun e he' => by
          rcases List.mem_append.1 he' with he' | he'
          · exact hwf e he'
          · rw [List.mem_singleton] at he'; subst he'; exact ⟨w1, w2⟩) (fun e he' => by
          rcases List.mem_append.1 he' with he' | he'
          · exact hck e he'
          · rw [List.mem_singleton] at he'; subst he'; exact errP_zero he)
        rw [hal, List.map_append, List.map_singleton] at this
        obtain ⟨lst, u2, la2, pl, bad, x9, x10, x11, x12, x21, x22, x23, x24, t, k1, k2⟩ := this
        refine ⟨lst, u2, la2, pl, bad, x9, x10, x11, x12, x21, x22, x23, x24, t, ?_, k2⟩
        rw [iter_step h1, h2, hil]
        exact k1
      · rw [if_neg he]
        obtain ⟨x9, x10, x11, x12, x21, x22, x23, x24, t, h1⟩ := rb he
        exact ⟨l, u, la, _, _, x9, x10, x11, x12, x21, x22, x23, x24, t, iter_stop h1, rfl, by rw [if_neg he], hwf, hck, by omega⟩
set_option maxHeartbeats 1000000 in
theorem f12 (hX : XOj m X) {N : Nat} (hN : 10000 ≤ N) {s : List Nat} (hby : ∀ b ∈ s, b < 256) : vcallN X N 12 [strV s] = some (bl true) := by
  obtain ⟨N, rfl⟩ : ∃ M, N = M + 1 := ⟨N - 1, by omega⟩
  have hF : fnsX 12 = some fn12' := rfl
  have hlv := f40 hX (N := N) (by omega)
  suffices h : ∃ H, callN X (N + 1) (.d (.fn 12 [] [])) [strV s] [] = some (bl true, H) by
    obtain ⟨H, h⟩ := h
    exact vcall_of h rfl
  rw [hX.fn hF]
  by_cases c0 : (s.length : Int) > 400
  · refine ⟨[], (rf_fin _ _ _ _ _ _ _ _ _ (by rfl)).trans ?_⟩
    simp only [strV, hlv, c0, evs, Nat.reduceSub]
  have h30 := hX.x.vc (k := 30) (F := fn30) rfl (f30 hX.x (N := N) (s := s) (c := 10) (by omega) (by omega) hby)
  have hr0 : restN 10 s 0 = s := rfl
  obtain ⟨lst, u2, la2, pl, bad, x9, x10, x11, x12, x21, x22, x23, x24, t, hit, hp, hpl, hwf, hck, hln⟩ := it12 hX (N := N) (by omega) (s := s) (by omega) hby (s.length + 1) N [] 0 0 (by rw [List.length_nil, hr0]; omega) (by omega) (seqLen 10 s) (by rw [List.length_nil, hr0]; omega) (by decide) (fun _ h => absurd h List.not_mem_nil) (fun _ h => absurd h List.not_mem_nil)
  simp only [List.length_nil, List.map_nil, hr0] at hit hp
  have hpj : pJ s = (lst.map newE, u2, la2, bad) := hp
  have h37 := v37 hX (N := N) (j := s) (by omega) (by omega) hby (by rw [hpj]; simp only [List.length_map]; omega)
  have h43 := hX.vc (k := 43) (F := fn43) rfl (f43 hX (N := N) (j := s) (by omega) (by omega) hby (by rw [hpj]; simp only [List.length_map]; omega))
  have hus := parseJ_used (s.length + 1) [] 0 0 s
  have hus : u2 ≤ s.length := by
    have h : (pJ s).2.1 ≤ 0 + s.length := hus
    rw [hpj] at h
    simpa using h
  unfold parV at h37
  rw [hpj] at h37 h43
  simp only [List.length_map] at h37 h43
  have hdp := deep_en (H := .cells (eC lst) lst.length false :: t) (id := 0) (c := none) rfl rfl
  have hE : isEns (.sl (lst.flatMap En.ds) lst.length) lst := .inr rfl
  have hB : isEns (.sl ((lst.map newE).flatMap En.ds) lst.length) (lst.map newE) := .inr (by rw [List.length_map])
  have h39 := hX.vc (k := 39) (F := fn39) rfl (f39 hX (N := N) (by rw [List.length_map]; omega) hB hE (wf_new hwf) hwf (by rw [List.length_map]; omega) (fun e he => by
    obtain ⟨x, hx', rfl⟩ := List.mem_map.1 he
    have := chkS_len (chkE_parts (hck x hx')).2.2
    show x.l.length ≤ 300
    omega))
  rw [if_pos (alike_new lst)] at h39
  have ha0 : eC [] = [] := rfl
  have g0 : ((0 : Int) != 0) = false := rfl
  have g00 : ((0 : Int) == 0) = true := rfl
  have g1 : ((1 : Int) == 1) = true := rfl
  have gtt : (s.take u2 == s.take u2) = true := by simp
  have gnn : ((lst.length : Int) != (lst.length : Int)) = false := by simp
  have guu : ((u2 : Int) == (u2 : Int)) = true := by simp
  have hk4 : ∀ a : Int, (a != a) = false := fun a => by simp
  simp only [strV, i64, Int.cast_ofNat_Int] at h30 h37 h43 h39 hlv
  generalize (lst.map newE).flatMap En.ds = d2 at *
  generalize lst.flatMap En.ds = d1 at *
  simp only [strV, i64, ha0, R12, X12, Int.natCast_zero] at hit
  refine ⟨.cells (eC lst) lst.length false :: t, (rf_fin _ _ _ _ _ _ _ _ _ (by rfl)).trans ?_⟩
  generalize Ob.cells (eC lst) lst.length false :: t = HH at *
  by_cases hb : bad = 0
  · subst hb
    rw [if_pos rfl] at hpl h37
    subst hpl
    simp only [strV, binStr, optNat, c0, h30, ex_fresh, frn_nil, hit, h37, h43, h39, hdp, hlv, hus, g0, g1, gtt, gnn, guu, Option.map_none, Option.map_some, Bool.not_true, Nat.zero_le, Int.natCast_zero, List.drop_zero, freeze_nil, reachV, reachC, ite_self, List.flatMap_cons, List.flatMap_nil, ↓sp_len, evs, Nat.reduceAdd, Nat.reduceBEq, Nat.reduceSub]
  · rw [if_neg hb] at hpl h37
    subst hpl
    have gb : ((bad : Int) != 0) = true := by rw [bne_iff_ne]; omega
    simp only [strV, binStr, optNat, c0, h30, ex_fresh, frn_nil, hit, h37, h43, hlv, hus, g0, g00, gb, gtt, gnn, hk4, Option.map_none, Option.map_some, Bool.not_true, Nat.zero_le, List.drop_zero, freeze_nil, reachV, reachC, ite_self, List.flatMap_cons, List.flatMap_nil, ↓sp_len, evs, Nat.reduceAdd, Nat.reduceBEq, Nat.reduceSub]
end Mini
end Go.Proofs.YtgjlofpfbhioaaaGreatDoor
