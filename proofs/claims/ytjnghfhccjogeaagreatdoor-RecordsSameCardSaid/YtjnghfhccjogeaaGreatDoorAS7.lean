/-
  RecordsSame: texts of the proof: S7.
-/
import Derived.Test.YtjnghfhccjogeaaGreatDoorAJS3
namespace Go.Proofs.YtjnghfhccjogeaaGreatDoor
namespace Mini
open Go
variable {m : Int} {X : Ctx}
def lgQ (q : Qu) : Bool := decide (1100 < q.uri.length) || (decide (1100 < q.raw.length) || (decide (1100 < q.os.length) || (decide (1100 < q.ts.length) || decide (20 < q.ns.length))))
def lgP (p : Po) : Bool := decide (10 < p.qs.length) || !(all2 (fun q _ => !lgQ q) p.qs p.qs)
def lgR (r : Re) : Bool := decide (70 < r.ps.length) || (decide (70 < r.ms.length) || !(all2 (fun p _ => !lgP p) r.ps r.ps))
theorem lgQ_no {q : Qu} (h : lgQ q = false) : q.uri.length ≤ 1100 ∧ q.raw.length ≤ 1100 ∧ q.os.length ≤ 1100 ∧ q.ts.length ≤ 1100 ∧ q.ns.length ≤ 20 := by
  simp only [lgQ, Bool.or_eq_false_iff, decide_eq_false_iff_not] at h
  omega
theorem lgP_no {p : Po} (h : lgP p = false) : p.qs.length ≤ 10 ∧ ∀ q ∈ p.qs, lgQ q = false := by
  simp only [lgP, Bool.or_eq_false_iff, decide_eq_false_iff_not, Bool.not_eq_false'] at h
  exact ⟨by omega, fun q hq => by simpa using all2_one (f := fun q => !lgQ q) h.2 q hq⟩
theorem lgR_no {r : Re} (h : lgR r = false) : r.ps.length ≤ 70 ∧ r.ms.length ≤ 70 ∧ ∀ p ∈ r.ps, lgP p = false := by
  simp only [lgR, Bool.or_eq_false_iff, decide_eq_false_iff_not, Bool.not_eq_false'] at h
  exact ⟨by omega, by omega, fun q hq => by simpa using all2_one (f := fun q => !lgP q) h.2.2 q hq⟩
theorem lgR_sm {r : Re} (h : lgR r = false) : r.sm := by
  obtain ⟨h1, h2, h3⟩ := lgR_no h
  exact ⟨h1, h2, fun p hp => ⟨(lgP_no (h3 p hp)).1, fun q hq => (lgQ_no ((lgP_no (h3 p hp)).2 q hq)).2.2.2.2⟩⟩
abbrev HR (a : Re) : Heap := [.cells a.cs 0 false]
set_option maxHeartbeats 2000000 in
theorem rQ {N : Nat} {a : Re} {i : Nat} {w : D} {l : List Qu} (hw : isSl Qu.ds w l) (hl : ∀ q ∈ l, q.ok) (hlen : l.length < 1000000) (j : Nat) (q : Qu) (hq : l[j]? = some q) : exec (zenv X N) N false fn11L0 ⟨[.any, .c (.ptr 0 0 0), .any, i64 (i : Int), .c (.d w), i64 (j : Int), .any, .any, .any, .any, .any], HR a⟩ = some (if (!lgQ q) then (.nrm, ⟨[.any, .c (.ptr 0 0 0), .any, i64 (i : Int), .c (.d w), i64 ((j + 1 : Nat) : Int), .any, .any, .any, bl true, bl false], HR a⟩) else (.ret, ⟨[.any, .c (.ptr 0 0 0), i64 1, i64 (i : Int), .c (.d w), i64 (j : Int), .any, .any, .any, bl true, bl true], HR a⟩)) := by
  have hj := (List.getElem?_eq_some_iff.1 hq).1
  have ok := hl _ (List.mem_of_getElem? hq)
  obtain ⟨t, h1⟩ := hw.at (sz := 27) (fun x hx => Qu.len (hl x hx)) (by omega) hq
  have h4 : (j : Int) < (l.length : Int) := by omega
  have h5 := wrap_succ (k := j) (by omega)
  have hlw := hw.len
  have n9 : (oD q.id).length = 17 := oD_len ok.i
  have hln : (q.ds ++ t).length = 27 + t.length := by rw [List.length_append, Qu.len ok]
  have x1 : 1 < (q.ds ++ t).length := by omega
  have x26 : 26 < (q.ds ++ t).length := by omega
  have x3 : 3 < (q.ds ++ t).length := by omega
  have x7 : 7 < (q.ds ++ t).length := by omega
  have x5 : 5 < (q.ds ++ t).length := by omega
  have x31 : 1 < (List.drop 3 (q.ds ++ t)).length := by rw [List.length_drop]; omega
  have x71 : 1 < (List.drop 7 (q.ds ++ t)).length := by rw [List.length_drop]; omega
  have y1 : List.map C.d (List.take 1 (List.drop 1 (q.ds ++ t))) = [.d (.str q.uri)] := rfl
  have y3 : List.map C.d (List.take 1 (List.drop 1 (List.drop 3 (q.ds ++ t)))) = [.d (.str q.os)] := rfl
  have y7 : List.map C.d (List.take 1 (List.drop 1 (List.drop 7 (q.ds ++ t)))) = [.d (.str q.ts)] := rfl
  have y5 : List.map C.d (List.take 1 (List.drop 5 (q.ds ++ t))) = [.d q.nw] := rfl
  have y26 : List.map C.d (List.take 1 (List.drop 26 (q.ds ++ t))) = [.d q.rv] := by
    rw [show 26 = 9 + 17 from rfl, ← List.drop_drop]
    show List.map C.d (List.take 1 (List.drop 17 ((oD q.id ++ [q.rv]) ++ t))) = _
    rw [List.append_assoc, ← n9, List.drop_left]
    rfl
  generalize q.ds ++ t = qa at *
  have l5 := ok.n.len
  have l26 := ok.r.len
  by_cases m1 : 1100 < q.uri.length
  case pos =>
    have n1 : (1100 : Int) < (q.uri.length : Int) := by omega
    have e0 : lgQ q = true := by simp [lgQ, m1]
    rw [e0]
    simp only [n1, fn11L0, h1, h4, hlw, x1, y1, Bool.not_true, ↓sp_len, ↓sp_ixa, evs]
  have n1 : ¬ (1100 : Int) < (q.uri.length : Int) := by omega
  by_cases m2 : 1100 < q.raw.length
  case pos =>
    have n2 : (1100 : Int) < (q.raw.length : Int) := by omega
    have e0 : lgQ q = true := by simp [lgQ, m2]
    rw [e0]
    simp only [n1, n2, fn11L0, h1, h4, hlw, x1, x26, y1, y26, l26, Bool.not_true, ↓sp_len, ↓sp_ixa, evs]
  have n2 : ¬ (1100 : Int) < (q.raw.length : Int) := by omega
  by_cases m3 : 1100 < q.os.length
  case pos =>
    have n3 : (1100 : Int) < (q.os.length : Int) := by omega
    have e0 : lgQ q = true := by simp [lgQ, m3]
    rw [e0]
    simp only [n1, n2, n3, fn11L0, h1, h4, hlw, x1, x26, x3, x31, y1, y3, y26, l26, Bool.not_true, ↓sp_len, ↓sp_ixa, evs]
  have n3 : ¬ (1100 : Int) < (q.os.length : Int) := by omega
  by_cases m4 : 1100 < q.ts.length
  case pos =>
    have n4 : (1100 : Int) < (q.ts.length : Int) := by omega
    have e0 : lgQ q = true := by simp [lgQ, m4]
    rw [e0]
    simp only [n1, n2, n3, n4, fn11L0, h1, h4, hlw, x1, x26, x3, x7, x31, x71, y1, y3, y7, y26, l26, Bool.not_true, ↓sp_len, ↓sp_ixa, evs]
  have n4 : ¬ (1100 : Int) < (q.ts.length : Int) := by omega
  by_cases m5 : 20 < q.ns.length
  case pos =>
    have n5 : (20 : Int) < (q.ns.length : Int) := by omega
    have e0 : lgQ q = true := by simp [lgQ, m5]
    rw [e0]
    simp only [n1, n2, n3, n4, n5, fn11L0, h1, h4, hlw, x1, x26, x3, x7, x5, x31, x71, y1, y3, y7, y5, y26, l5, l26, Bool.not_true, ↓sp_len, ↓sp_ixa, evs]
  have n5 : ¬ (20 : Int) < (q.ns.length : Int) := by omega
  have e0 : lgQ q = false := by simp [lgQ, m1, m2, m3, m4, m5]
  rw [e0]
  simp only [n1, n2, n3, n4, n5, fn11L0, h1, h4, h5, hlw, x1, x26, x3, x7, x5, x31, x71, y1, y3, y7, y5, y26, l5, l26, Bool.not_false, ↓sp_len, ↓sp_ixa, evs]
set_option maxHeartbeats 2000000 in
theorem rP {N : Nat} {a : Re} (ha : a.ok) (hlen : a.ps.length < 1000000) (hN : 400 ≤ N) (j : Nat) (p : Po) (hp0 : a.ps[j]? = some p) : if (!lgP p) then ∃ s', exec (zenv X N) N false fn11L1 ⟨[.any, .c (.ptr 0 0 0), .any, i64 (j : Int), .any, .any, .any, .any, .any, .any, .any], HR a⟩ = some (.nrm, s') ∧ tidy 1 (some [1, 3]) s' = ⟨[.any, .c (.ptr 0 0 0), .any, i64 ((j + 1 : Nat) : Int), .any, .any, .any, .any, .any, .any, .any], HR a⟩ else ∃ s', exec (zenv X N) N false fn11L1 ⟨[.any, .c (.ptr 0 0 0), .any, i64 (j : Int), .any, .any, .any, .any, .any, .any, .any], HR a⟩ = some (.ret, s') ∧ nth s'.regs 2 = i64 1 := by
  have hj := (List.getElem?_eq_some_iff.1 hp0).1
  have okp := ha.ps _ (List.mem_of_getElem? hp0)
  obtain ⟨t, h1⟩ := ha.p.at (sz := 18) (fun x hx => Po.len (ha.ps x hx)) (by omega) hp0
  have hp := ha.p.len
  have h4 : (j : Int) < (a.ps.length : Int) := by omega
  have h5 := wrap_succ (k := j) (by omega)
  have n9 : (oD p.id).length = 17 := oD_len okp.i
  have x1 : 17 < (p.ds ++ t).length := by rw [List.length_append, Po.len okp]; omega
  have y1 : List.map C.d (List.take 1 (List.drop 17 (p.ds ++ t))) = [.d p.w] := by rw [Po.ds, List.append_assoc, ← n9, List.drop_left]; rfl
  generalize p.ds ++ t = pa at *
  have hq := okp.s.len
  by_cases m1 : 10 < p.qs.length
  case pos =>
    have n1 : (10 : Int) < (p.qs.length : Int) := by omega
    have e0 : lgP p = true := by simp [lgP, m1]
    rw [e0, if_neg (by simp)]
    refine ⟨⟨[.any, .c (.ptr 0 0 0), i64 1, i64 (j : Int), .c (.d p.w), .any, .any, bl true, bl true, .any, .any], HR a⟩, ?_, rfl⟩
    simp only [fn11L1, h1, h4, x1, y1, hp, hq, n1, List.take, List.drop, ↓sp_len, ↓sp_ixa, evs]
  have n1 : ¬ (10 : Int) < (p.qs.length : Int) := by omega
  have e0 : lgP p = !(all2 (fun q _ => !lgQ q) p.qs p.qs) := by simp [lgP, m1]
  rw [e0, Bool.not_not]
  have hsc := iter_all2 (e := fun q _ => !lgQ q) (u := p.qs) (v := p.qs) (js := some [1, 3, 4, 5]) (hl := 1) (body := exec (zenv X N) N false fn11L0) (fun i => ⟨[.any, .c (.ptr 0 0 0), .any, i64 (j : Int), .c (.d p.w), i64 (i : Int), .any, .any, .any, .any, .any], HR a⟩) (b := 2) (s1 := ⟨[.any, .c (.ptr 0 0 0), .any, i64 (j : Int), .c (.d p.w), i64 (p.qs.length : Int), .any, .any, .any, bl false, .any], HR a⟩) (Q := fun s => nth s.regs 2 = i64 1) (fuel := N) rfl (by omega)
    (by
      intro k q q' hq0 _ he
      have h := rQ (X := X) (N := N) (a := a) (i := j) okp.s okp.q (by omega) k q hq0
      rw [if_pos he] at h
      exact ⟨_, h, gc_le (Nat.le_refl 1)⟩)
    (by simp only [fn11L0, hq, ↓sp_len, evs])
    (by
      intro k q q' hq0 _ he
      have h := rQ (X := X) (N := N) (a := a) (i := j) okp.s okp.q (by omega) k q hq0
      rw [if_neg (by rw [he]; simp)] at h
      exact ⟨_, h, rfl⟩)
  simp only [i64, bl, Int.natCast_zero] at hsc
  rcases hsc with ⟨he, hit⟩ | ⟨he, s', hs, hit⟩
  · rw [he, if_pos rfl]
    refine ⟨⟨[.any, .c (.ptr 0 0 0), .any, i64 ((j + 1 : Nat) : Int), .c (.d p.w), i64 (p.qs.length : Int), .any, .any, .any, bl false, .any], HR a⟩, ?_, gc_le (Nat.le_refl 1)⟩
    simp only [fn11L1, h1, h4, h5, x1, y1, hp, hq, n1, hit, List.take, List.drop, ↓sp_len, ↓sp_ixa, evs, Nat.reduceAdd, Nat.reduceBEq]
  · rw [he, if_neg (by simp)]
    obtain ⟨r, H⟩ := s'
    refine ⟨⟨r, H⟩, ?_, hs⟩
    simp only [fn11L1, h1, h4, x1, y1, hp, hq, n1, hit, List.take, List.drop, ↓sp_len, ↓sp_ixa, evs, Nat.reduceAdd, Nat.reduceBEq]
set_option maxHeartbeats 2000000 in
theorem f11 (hX : XOs m X) {N : Nat} {a : Re} (hN : 500 ≤ N) (ha : a.ok) : vcallN X N 11 [.agg a.cs] = some (i64 (if lgR a then 1 else 0)) := by
  obtain ⟨N, rfl⟩ : ∃ M, N = M + 1 := ⟨N - 1, by omega⟩
  have hF : fnsS 11 = some fn11 := rfl
  suffices h : ∃ H, callN X (N + 1) (.d (.fn 11 [] [])) [.agg a.cs] [] = some (i64 (if lgR a then 1 else 0), H) by
    obtain ⟨H, h⟩ := h
    exact vcall_of h rfl
  rw [hX.fn hF]
  have hp := ha.p.len
  have hm := ha.m.len
  by_cases m1 : 70 < a.ps.length
  case pos =>
    have n1 : (70 : Int) < (a.ps.length : Int) := by omega
    have e0 : lgR a = true := by simp [lgR, m1]
    rw [e0]
    exact ⟨HR a, (rf_fin _ _ _ _ _ _ _ _ _ (by rfl)).trans (by simp only [n1, hp, List.take, List.drop, ↓sp_len, evs, Nat.reduceSub])⟩
  have n1 : ¬ (70 : Int) < (a.ps.length : Int) := by omega
  by_cases m2 : 70 < a.ms.length
  case pos =>
    have n2 : (70 : Int) < (a.ms.length : Int) := by omega
    have e0 : lgR a = true := by simp [lgR, m2]
    rw [e0]
    exact ⟨HR a, (rf_fin _ _ _ _ _ _ _ _ _ (by rfl)).trans (by simp only [n1, n2, hp, hm, List.take, List.drop, ↓sp_len, evs, Nat.reduceSub])⟩
  have n2 : ¬ (70 : Int) < (a.ms.length : Int) := by omega
  have e0 : lgR a = !(all2 (fun q _ => !lgP q) a.ps a.ps) := by simp [lgR, m1, m2]
  rw [e0]
  have hsc := iter_all2 (e := fun q _ => !lgP q) (u := a.ps) (v := a.ps) (js := some [1, 3]) (hl := 1) (body := exec (zenv X N) N false fn11L1) (fun i => ⟨[.any, .c (.ptr 0 0 0), .any, i64 (i : Int), .any, .any, .any, .any, .any, .any, .any], HR a⟩) (b := 0) (s1 := ⟨[.any, .c (.ptr 0 0 0), .any, i64 (a.ps.length : Int), .any, .any, .any, bl false, .any, .any, .any], HR a⟩) (Q := fun s => nth s.regs 2 = i64 1) (fuel := N) rfl (by omega)
    (by
      intro k q q' hq0 _ he
      have h := rP (X := X) (N := N) ha (by omega) (by omega) k q hq0
      rw [if_pos he] at h
      exact h)
    (by simp only [fn11L1, hp, List.take, List.drop, ↓sp_len, evs])
    (by
      intro k q q' hq0 _ he
      have h := rP (X := X) (N := N) ha (by omega) (by omega) k q hq0
      rw [if_neg (by rw [he]; simp)] at h
      exact h)
  simp only [i64, bl, Int.natCast_zero] at hsc
  rcases hsc with ⟨he, hit⟩ | ⟨he, s', hs, hit⟩
  · rw [he]
    exact ⟨HR a, (rf_fin _ _ _ _ _ _ _ _ _ (by rfl)).trans (by simp only [n1, n2, hp, hm, hit, Bool.not_true, List.take, List.drop, ↓sp_len, evs, Nat.reduceAdd, Nat.reduceSub, Nat.reduceBEq])⟩
  · rw [he]
    obtain ⟨r, H⟩ := s'
    simp only [] at hs
    exact ⟨H, (rf_fin _ _ _ _ _ _ _ _ _ (by rfl)).trans (by simp only [n1, n2, hp, hm, hit, hs, Bool.not_false, List.take, List.drop, ↓sp_len, evs, Nat.reduceAdd, Nat.reduceSub, Nat.reduceBEq])⟩
theorem f10 (hX : XOs m X) {N : Nat} {a b : Re} (hN : 600 ≤ N) (ha : a.ok) (hb : b.ok) : vcallN X N 10 [.agg a.cs, .agg b.cs] = some (bl true) := by
  obtain ⟨N, rfl⟩ : ∃ M, N = M + 1 := ⟨N - 1, by omega⟩
  have hF : fnsS 10 = some fn10 := rfl
  suffices h : ∃ H, callN X (N + 1) (.d (.fn 10 [] [])) [.agg a.cs, .agg b.cs] [] = some (bl true, H) by
    obtain ⟨H, h⟩ := h
    exact vcall_of h rfl
  rw [hX.fn hF]
  have d1 : ∀ H : Heap, mapO (deepC H deepMax) a.cs = some a.ds := fun H => mapO_dc H _ a.ds
  have d2 : ∀ H : Heap, mapO (deepC H deepMax) b.cs = some b.ds := fun H => mapO_dc H _ b.ds
  have l1 : a.ds.map C.d = a.cs := rfl
  have l2 : b.ds.map C.d = b.cs := rfl
  have t1 : List.take 8 (List.drop 0 a.cs) = a.cs := rfl
  have t2 : List.take 8 (List.drop 0 b.cs) = b.cs := rfl
  have k1 : a.cs.length = 8 := rfl
  have k2 : b.cs.length = 8 := rfl
  have v11 := hX.vc (k := 11) (F := fn11) rfl (f11 hX (N := N) (by omega) ha)
  have v11' := hX.vc (k := 11) (F := fn11) rfl (f11 hX (N := N) (by omega) hb)
  have v12 := f12 hX (N := N) (by omega)
  have w0 : IntKind.i64.wrap ((0 : Int) + 0) = 0 := by decide
  have w1 : IntKind.i64.wrap ((0 : Int) + 1) = 1 := by decide
  have w2 : IntKind.i64.wrap ((1 : Int) + 0) = 1 := by decide
  have w3 : IntKind.i64.wrap ((1 : Int) + 1) = 2 := by decide
  have g0 : (0 : Int) < 1 := by decide
  have g1 : (0 : Int) < 2 := by decide
  simp only [i64, bl] at v11 v11' ⊢
  cases la : lgR a <;> cases lb : lgR b <;> rw [la] at v11 <;> rw [lb] at v11'
  case false.false =>
    have sa := lgR_sm la
    have sb := lgR_sm lb
    have v46 := hX.vc (k := 46) (F := fn46) rfl (f46 hX (N := N) (by omega) ha hb sa)
    have v46' := hX.vc (k := 46) (F := fn46) rfl (f46 hX (N := N) (by omega) hb ha sb)
    have v46s := hX.vc (k := 46) (F := fn46) rfl (f46 hX (N := N) (by omega) ha ha sa)
    have v47 := hX.vc (k := 47) (F := fn47) rfl (f47 hX (N := N) (by omega) ha hb sa)
    rw [eqR_self] at v46s
    rw [eqR_sym b a] at v46'
    have e1 : ((1 : Int) == 1) = true := rfl
    have e2 : ((0 : Int) == 1) = false := rfl
    have bf : ∀ x : Bool, (false ^^ x) = x := fun x => by cases x <;> rfl
    have bb1 : (true == true) = true := rfl
    have bb2 : (false == false) = true := rfl
    generalize hca : a.cs = ca at *
    generalize hcb : b.cs = cb at *
    simp only [i64] at v47
    cases he : eqR a b <;> rw [he] at v46 v46' v47 <;> exact ⟨[.cells ca 0 false, .cells cb 0 false], (rf_fin _ _ _ _ _ _ _ _ _ (by rfl)).trans (by simp only [d1, d2, l1, l2, t1, t2, k1, k2, v11, v11', v12, v46, v46', v46s, v47, w0, e1, e2, bf, bb1, bb2, evs, Nat.reduceAdd, Nat.reduceSub])⟩
  all_goals
    generalize hca : a.cs = ca at *
    generalize hcb : b.cs = cb at *
    exact ⟨[.cells ca 0 false, .cells cb 0 false], (rf_fin _ _ _ _ _ _ _ _ _ (by rfl)).trans (by simp only [d1, d2, l1, l2, t1, t2, k1, k2, v11, v11', v12, w1, w2, w3, g0, g1, evs, Nat.reduceAdd, Nat.reduceSub])⟩
end Mini
end Go.Proofs.YtjnghfhccjogeaaGreatDoor
