/-
  RecordsSame: texts of the proof: S3, S4, S5, S6.
-/
import Derived.Test.YtjnghfhccjogeaaGreatDoorAJT
namespace Go.Proofs.YtjnghfhccjogeaaGreatDoor
namespace Mini
open Go
variable {m : Int} {X : Ctx}
theorem mapO_dc (H : Heap) (k : Nat) : ∀ ds : List D, mapO (deepC H k) (ds.map .d) = some ds
  | [] => rfl
  | d :: ds => by
    have h := mapO_dc H k ds
    simp only [List.map_cons, mapO]
    rw [h]
    cases k <;> rfl
theorem all2_eq {α : Type} [DecidableEq α] : ∀ {u v : List α}, all2 (fun a b => a == b) u v = decide (u = v)
  | [], [] => rfl
  | [], _ :: _ => rfl
  | _ :: _, [] => rfl
  | a :: u, b :: v => by
    simp only [all2, all2_eq (u := u) (v := v)]
    by_cases h1 : a = b
    · subst h1; by_cases h2 : u = v <;> simp [h2]
    · simp [h1]
theorem f116 (hX : XOs m X) {N : Nat} {w w' : D} {u v : List Int} (hN : u.length + 20 ≤ N) (hw : isSl nD w u) (hw' : isSl nD w' v) (hlen : u.length < 1000000) : vcallN X N 116 [.c (.d w), .c (.d w')] = some (.c (.d (.bool (decide (u = v))))) := by
  obtain ⟨N, rfl⟩ : ∃ M, N = M + 1 := ⟨N - 1, by omega⟩
  have hF : fnsS 116 = some fn116 := rfl
  suffices h : ∃ H, callN X (N + 1) (.d (.fn 116 [] [])) [.c (.d w), .c (.d w')] [] = some (.c (.d (.bool (decide (u = v)))), H) by
    obtain ⟨H, h⟩ := h
    exact vcall_of h rfl
  rw [hX.fn hF]
  have hlw := hw.len
  have hlw' := hw'.len
  by_cases c0 : u.length = v.length
  case neg =>
    have g0 : ((u.length : Int) != (v.length : Int)) = true := by rw [bne_iff_ne]; omega
    have : decide (u = v) = false := by rw [decide_eq_false_iff_not]; exact fun h => c0 (by rw [h])
    rw [this]
    refine ⟨[], (rf_fin _ _ _ _ _ _ _ _ _ (by rfl)).trans ?_⟩
    simp only [hlw, hlw', g0, ↓sp_len, evs, Nat.reduceAdd, Nat.reduceSub]
  have g0 : ((u.length : Int) != (v.length : Int)) = false := by rw [bne_eq_false_iff_eq]; omega
  have hsc := iter_all2 (e := fun a b => a == b) (u := u) (v := v) (js := some [0, 1, 5, 6]) (hl := 0) (body := exec (zenv X N) N false fn116L0) (fun i => ⟨[.c (.d w), .c (.d w'), .any, .any, .any, i64 (u.length : Int), i64 (i : Int), .any, .any], []⟩) (b := 0) (s1 := ⟨[.c (.d w), .c (.d w'), .any, .any, .any, i64 (u.length : Int), i64 (u.length : Int), bl false, .any], []⟩) (Q := fun s => nth s.regs 2 = bl false) (fuel := N) c0 (by omega)
    (by
      intro j a b ha hb he
      have hj := (List.getElem?_eq_some_iff.1 ha).1
      obtain ⟨t, h1⟩ := hw.at (sz := 1) (fun _ _ => rfl) (by omega) ha
      obtain ⟨t', h2⟩ := hw'.at (sz := 1) (fun _ _ => rfl) (by omega) hb
      have h4 : (j : Int) < (u.length : Int) := by omega
      have h5 := wrap_succ (k := j) (by omega)
      simp only [nD, List.cons_append, List.nil_append] at h1 h2
      have he' : (a != b) = false := by simpa [bne] using he
      refine ⟨⟨[.c (.d w), .c (.d w'), .any, i64 (j : Int), .any, i64 (u.length : Int), i64 ((j + 1 : Nat) : Int), bl true, bl false], []⟩, ?_, gc_le (Nat.le_refl 0)⟩
      simp only [fn116L0, h1, h2, h4, h5, he', List.take, List.map_cons, List.map_nil, ↓sp_ixa, evs])
    (by simp only [fn116L0, evs])
    (by
      intro j a b ha hb he
      have hj := (List.getElem?_eq_some_iff.1 ha).1
      obtain ⟨t, h1⟩ := hw.at (sz := 1) (fun _ _ => rfl) (by omega) ha
      obtain ⟨t', h2⟩ := hw'.at (sz := 1) (fun _ _ => rfl) (by omega) hb
      have h4 : (j : Int) < (u.length : Int) := by omega
      simp only [nD, List.cons_append, List.nil_append] at h1 h2
      have he' : (a != b) = true := by simpa [bne] using he
      refine ⟨⟨[.c (.d w), .c (.d w'), bl false, i64 (j : Int), .any, i64 (u.length : Int), i64 (j : Int), bl true, bl true], []⟩, ?_, rfl⟩
      simp only [fn116L0, h1, h2, h4, he', List.take, List.map_cons, List.map_nil, ↓sp_ixa, evs])
  rw [all2_eq] at hsc
  simp only [i64, bl, Int.natCast_zero] at hsc
  rcases hsc with ⟨he, hit⟩ | ⟨he, s', hq, hit⟩
  · rw [he]
    refine ⟨[], (rf_fin _ _ _ _ _ _ _ _ _ (by rfl)).trans ?_⟩
    simp only [hlw, hlw', g0, hit, ↓sp_len, evs, Nat.reduceAdd, Nat.reduceBEq, Nat.reduceSub]
  · rw [he]
    refine ⟨s'.heap, (rf_fin _ _ _ _ _ _ _ _ _ (by rfl)).trans ?_⟩
    obtain ⟨r, H⟩ := s'
    simp only [] at hq
    simp only [hlw, hlw', g0, hit, hq, ↓sp_len, evs, Nat.reduceAdd, Nat.reduceBEq, Nat.reduceSub]
theorem f117 (hX : XOs m X) {N : Nat} (hN : 5 ≤ N) {w w' : D} {u v : List Nat} (hw : isSl byD w u) (hw' : isSl byD w' v) (hu : ∀ b ∈ u, b < 256) (hv : ∀ b ∈ v, b < 256) : vcallN X N 117 [.c (.d w), .c (.d w')] = some (.c (.d (.bool (u == v)))) := by
  obtain ⟨N, rfl⟩ : ∃ M, N = M + 1 := ⟨N - 1, by omega⟩
  have hF : fnsS 117 = some fn117 := rfl
  suffices h : ∃ H, callN X (N + 1) (.d (.fn 117 [] [])) [.c (.d w), .c (.d w')] [] = some (.c (.d (.bool (u == v))), H) by
    obtain ⟨H, h⟩ := h
    exact vcall_of h rfl
  rw [hX.fn hF]
  have h1 := fun H => hw.b2s hu H
  have h2 := fun H => hw'.b2s hv H
  refine ⟨[], (rf_fin _ _ _ _ _ _ _ _ _ (by rfl)).trans ?_⟩
  simp only [h1, h2, binStr, ↓sp_b2s, evs, Nat.reduceAdd, Nat.reduceSub]
set_option maxHeartbeats 2000000 in
theorem f115 (hX : XOs m X) {N : Nat} {a b : Qu} (hN : a.ns.length + 40 ≤ N) (ha : a.ok) (hb : b.ok) (hlen : a.ns.length < 1000000) (H : Heap) : ∃ H', callN X N (.d (.fn 115 [] [])) [.agg (a.ds.map .d), .agg (b.ds.map .d)] H = some (.c (.d (.bool (eqQ a b))), H ++ H') := by
  obtain ⟨N, rfl⟩ : ∃ M, N = M + 1 := ⟨N - 1, by omega⟩
  have hF : fnsS 115 = some fn115 := rfl
  rw [hX.fn hF]
  have p := Qu.at ha
  have q := Qu.at hb
  refine ⟨[.cells (a.ds.map .d) 0 false, .cells (b.ds.map .d) 0 false], ?_⟩
  have v116 := hX.vc (k := 116) (F := fn116) rfl (f116 hX (N := N) (by omega) ha.n hb.n hlen)
  have v117 := hX.vc (k := 117) (F := fn117) rfl (f117 hX (N := N) (by omega) ha.r hb.r ha.b hb.b)
  have vi := eqO ha.i hb.i
  have l9 : (oC a.id).length = 17 := oC_len ha.i
  have l9' : (oC b.id).length = 17 := oC_len hb.i
  obtain ⟨p0, p1, p2, p3, p5, p6, p7, p9, p26⟩ := p
  obtain ⟨q0, q1, q2, q3, q5, q6, q7, q9, q26⟩ := q
  generalize a.ds.map C.d = ca at *
  generalize b.ds.map C.d = cb at *
  refine (rf_fin _ _ _ _ _ _ _ _ _ (by rfl)).trans ?_
  have at0' : (H ++ [Ob.cells ca 0 false])[H.length]? = some (Ob.cells ca 0 false) := at0
  have at0'' : (H ++ [Ob.cells ca 0 false, Ob.cells cb 0 false])[H.length]? = some (Ob.cells ca 0 false) := at0
  have at1' : (H ++ [Ob.cells ca 0 false, Ob.cells cb 0 false])[H.length + 1]? = some (Ob.cells cb 0 false) := at1
  have bf : ∀ x : Bool, (false ^^ x) = x := fun x => by cases x <;> rfl
  unfold eqQ
  simp only [Bool.and_true]
  cases c1 : (a.k == b.k) <;> simp only [Bool.false_and, Bool.true_and]
  case false => simp only [c1, p0, q0, at0'', at1', List.append_assoc, List.length_append, evs, Nat.reduceAdd, Nat.reduceSub]
  cases c2 : (a.uri == b.uri) <;> simp only [Bool.false_and, Bool.true_and]
  case false => simp only [c1, c2, p0, q0, p1, q1, binStr, at0'', at1', List.append_assoc, List.length_append, evs, Nat.reduceAdd, Nat.reduceSub]
  cases c3 : (a.hr == b.hr) <;> simp only [Bool.false_and, Bool.true_and]
  case false => simp only [c1, c2, c3, p0, q0, p1, q1, p2, q2, bf, binStr, at0'', at1', List.append_assoc, List.length_append, evs, Nat.reduceAdd, Nat.reduceSub]
  cases c4 : ((a.o == b.o && a.os == b.os)) <;> simp only [Bool.false_and, Bool.true_and]
  case false => simp only [c1, c2, c3, c4, p0, q0, p1, q1, p2, q2, p3, q3, bf, binStr, hasKinds, isKind, eqK, eqCell, at0'', at1', List.append_assoc, List.length_append, evs, Nat.reduceAdd, Nat.reduceSub, Bool.and_self, Bool.and_true]
  cases c5 : (decide (a.ns = b.ns)) <;> simp only [Bool.false_and, Bool.true_and]
  case false => simp only [c1, c2, c3, c4, c5, p0, q0, p1, q1, p2, q2, p3, q3, p5, q5, v116, bf, binStr, hasKinds, isKind, eqK, eqCell, at0'', at1', List.append_assoc, List.length_append, evs, Nat.reduceAdd, Nat.reduceSub, Bool.and_self, Bool.and_true]
  cases c6 : (a.ht == b.ht) <;> simp only [Bool.false_and, Bool.true_and]
  case false => simp only [c1, c2, c3, c4, c5, c6, p0, q0, p1, q1, p2, q2, p3, q3, p5, q5, p6, q6, v116, bf, binStr, hasKinds, isKind, eqK, eqCell, at0'', at1', List.append_assoc, List.length_append, evs, Nat.reduceAdd, Nat.reduceSub, Bool.and_self, Bool.and_true]
  cases c7 : ((a.t == b.t && a.ts == b.ts)) <;> simp only [Bool.false_and, Bool.true_and]
  case false => simp only [c1, c2, c3, c4, c5, c6, c7, p0, q0, p1, q1, p2, q2, p3, q3, p5, q5, p6, q6, p7, q7, v116, bf, binStr, hasKinds, isKind, eqK, eqCell, at0'', at1', List.append_assoc, List.length_append, evs, Nat.reduceAdd, Nat.reduceSub, Bool.and_self, Bool.and_true]
  cases c8 : (decide (a.id = b.id)) <;> simp only [Bool.false_and, Bool.true_and]
  case false => simp only [c1, c2, c3, c4, c5, c6, c7, c8, p0, q0, p1, q1, p2, q2, p3, q3, p5, q5, p6, q6, p7, q7, p9, q9, l9, l9', vi, v116, bf, binStr, hasKinds, isKind, eqK, eqCell, at0'', at1', List.append_assoc, List.length_append, evs, Nat.reduceAdd, Nat.reduceSub, Bool.and_self, Bool.and_true]
  cases c9 : (a.raw == b.raw)
  case false => simp only [c1, c2, c3, c4, c5, c6, c7, c8, c9, p0, q0, p1, q1, p2, q2, p3, q3, p5, q5, p6, q6, p7, q7, p9, q9, p26, q26, l9, l9', vi, v116, v117, bf, binStr, hasKinds, isKind, eqK, eqCell, at0'', at1', List.append_assoc, List.length_append, evs, Nat.reduceAdd, Nat.reduceSub, Bool.and_self, Bool.and_true]
  simp only [c1, c2, c3, c4, c5, c6, c7, c8, c9, p0, q0, p1, q1, p2, q2, p3, q3, p5, q5, p6, q6, p7, q7, p9, q9, p26, q26, l9, l9', vi, v116, v117, bf, binStr, hasKinds, isKind, eqK, eqCell, at0'', at1', List.append_assoc, List.length_append, evs, Nat.reduceAdd, Nat.reduceSub, Bool.and_self, Bool.and_true]
set_option maxHeartbeats 2000000 in
theorem f114 (hX : XOs m X) {N : Nat} {w w' : D} {u v : List Qu} (hN : u.length + 120 ≤ N) (hw : isSl Qu.ds w u) (hw' : isSl Qu.ds w' v) (hu : ∀ a ∈ u, a.ok) (hv : ∀ b ∈ v, b.ok) (hlen : u.length < 1000000) (hns : ∀ a ∈ u, a.ns.length ≤ 20) : vcallN X N 114 [.c (.d w), .c (.d w'), .c (.d (.fn 115 [] []))] = some (.c (.d (.bool (all2 eqQ u v)))) := by
  obtain ⟨N, rfl⟩ : ∃ M, N = M + 1 := ⟨N - 1, by omega⟩
  have hF : fnsS 114 = some fn114 := rfl
  suffices h : ∃ H, callN X (N + 1) (.d (.fn 114 [] [])) [.c (.d w), .c (.d w'), .c (.d (.fn 115 [] []))] [] = some (.c (.d (.bool (all2 eqQ u v))), H) by
    obtain ⟨H, h⟩ := h
    exact vcall_of h rfl
  rw [hX.fn hF]
  have hlw := hw.len
  have hlw' := hw'.len
  by_cases c0 : u.length = v.length
  case neg =>
    have g0 : ((u.length : Int) != (v.length : Int)) = true := by rw [bne_iff_ne]; omega
    have : all2 eqQ u v = false := by
      cases h : all2 eqQ u v
      · rfl
      · exact absurd (all2_len h) c0
    rw [this]
    refine ⟨[], (rf_fin _ _ _ _ _ _ _ _ _ (by rfl)).trans ?_⟩
    simp only [hlw, hlw', g0, ↓sp_len, evs, Nat.reduceAdd, Nat.reduceSub]
  have g0 : ((u.length : Int) != (v.length : Int)) = false := by rw [bne_eq_false_iff_eq]; omega
  have step : ∀ (j : Nat) (a b : Qu), u[j]? = some a → v[j]? = some b → ∃ H' : Heap, exec (zenv X N) N false fn114L0 ⟨[.any, .c (.d w'), .c (.d (.fn 115 [] [])), .any, .any, .any, .any, .any, .c (.d w), i64 (u.length : Int), i64 (j : Int), .any, .any], []⟩ = some (if eqQ a b then (.nrm, ⟨[.any, .c (.d w'), .c (.d (.fn 115 [] [])), .any, i64 (j : Int), .c (.ptr 0 0 0), .c (.ptr 1 0 0), .any, .c (.d w), i64 (u.length : Int), i64 ((j + 1 : Nat) : Int), bl true, bl false], H'⟩) else (.ret, ⟨[.any, .c (.d w'), .c (.d (.fn 115 [] [])), bl false, i64 (j : Int), .c (.ptr 0 0 0), .c (.ptr 1 0 0), .any, .c (.d w), i64 (u.length : Int), i64 (j : Int), bl true, bl true], H'⟩)) := by
    intro j a b ha hb
    have hj := (List.getElem?_eq_some_iff.1 ha).1
    have oka := hu _ (List.mem_of_getElem? ha)
    have okb := hv _ (List.mem_of_getElem? hb)
    obtain ⟨t, h1⟩ := hw.at (sz := 27) (fun x hx => Qu.len (hu x hx)) (by omega) ha
    obtain ⟨t', h2⟩ := hw'.at (sz := 27) (fun x hx => Qu.len (hv x hx)) (by omega) hb
    have h4 : (j : Int) < (u.length : Int) := by omega
    have h5 := wrap_succ (k := j) (by omega)
    have k1 : List.map C.d (List.take 27 (a.ds ++ t)) = a.ds.map C.d := by rw [← Qu.len oka, List.take_left]
    have k2 : List.map C.d (List.take 27 (b.ds ++ t')) = b.ds.map C.d := by rw [← Qu.len okb, List.take_left]
    have l1 : (a.ds.map C.d).length = 27 := by rw [List.length_map, Qu.len oka]
    have l2 : (b.ds.map C.d).length = 27 := by rw [List.length_map, Qu.len okb]
    have t1 : List.take 27 (List.drop 0 (a.ds.map C.d)) = a.ds.map C.d := by rw [List.drop_zero, ← l1, List.take_length]
    have t2 : List.take 27 (List.drop 0 (b.ds.map C.d)) = b.ds.map C.d := by rw [List.drop_zero, ← l2, List.take_length]
    obtain ⟨H', hc⟩ := f115 hX (N := N) (a := a) (b := b) (by have := hns a (List.mem_of_getElem? ha); omega) oka okb (by have := hns a (List.mem_of_getElem? ha); omega) [.cells (a.ds.map C.d) 0 false, .cells (b.ds.map C.d) 0 false]
    refine ⟨[.cells (a.ds.map C.d) 0 false, .cells (b.ds.map C.d) 0 false] ++ H', ?_⟩
    generalize a.ds.map C.d = ca at *
    generalize b.ds.map C.d = cb at *
    have ht : List.take 27 (List.drop 0 ca) = ca := t1
    cases he : eqQ a b <;> simp only [he] at hc <;> simp only [fn114L0, h1, h2, h4, h5, k1, k2, l1, l2, t1, t2, hc, List.map_cons, List.map_nil, Bool.not_true, Bool.not_false, ↓sp_ixa, evs]
  have hsc := iter_all2 (e := eqQ) (u := u) (v := v) (js := some [1, 2, 8, 9, 10]) (hl := 0) (body := exec (zenv X N) N false fn114L0) (fun i => ⟨[.any, .c (.d w'), .c (.d (.fn 115 [] [])), .any, .any, .any, .any, .any, .c (.d w), i64 (u.length : Int), i64 (i : Int), .any, .any], []⟩) (b := 0) (s1 := ⟨[.any, .c (.d w'), .c (.d (.fn 115 [] [])), .any, .any, .any, .any, .any, .c (.d w), i64 (u.length : Int), i64 (u.length : Int), bl false, .any], []⟩) (Q := fun s => nth s.regs 3 = bl false) (fuel := N) c0 (by omega)
    (by
      intro j a b ha hb he
      obtain ⟨H', h⟩ := step j a b ha hb
      rw [he, if_pos rfl] at h
      exact ⟨_, h, gc_back (H := []) (t := H') 0 rfl rfl Hp.nil⟩)
    (by simp only [fn114L0, evs])
    (by
      intro j a b ha hb he
      obtain ⟨H', h⟩ := step j a b ha hb
      rw [he, if_neg (by simp)] at h
      exact ⟨_, h, rfl⟩)
  simp only [i64, bl, Int.natCast_zero] at hsc
  rcases hsc with ⟨he, hit⟩ | ⟨he, s', hq, hit⟩
  · rw [he]
    refine ⟨[], (rf_fin _ _ _ _ _ _ _ _ _ (by rfl)).trans ?_⟩
    simp only [hlw, hlw', g0, hit, ↓sp_len, evs, Nat.reduceAdd, Nat.reduceBEq, Nat.reduceSub]
  · rw [he]
    refine ⟨s'.heap, (rf_fin _ _ _ _ _ _ _ _ _ (by rfl)).trans ?_⟩
    obtain ⟨r, H⟩ := s'
    simp only [] at hq
    simp only [hlw, hlw', g0, hit, hq, ↓sp_len, evs, Nat.reduceAdd, Nat.reduceBEq, Nat.reduceSub]
theorem f77 (hX : XOs m X) {N : Nat} {w w' : D} {u v : List Qu} (hN : u.length + 130 ≤ N) (hw : isSl Qu.ds w u) (hw' : isSl Qu.ds w' v) (hu : ∀ a ∈ u, a.ok) (hv : ∀ b ∈ v, b.ok) (hlen : u.length < 1000000) (hns : ∀ a ∈ u, a.ns.length ≤ 20) : vcallN X N 77 [.c (.d w), .c (.d w')] = some (.c (.d (.bool (all2 eqQ u v)))) := by
  obtain ⟨N, rfl⟩ : ∃ M, N = M + 1 := ⟨N - 1, by omega⟩
  have hF : fnsS 77 = some fn77 := rfl
  suffices h : ∃ H, callN X (N + 1) (.d (.fn 77 [] [])) [.c (.d w), .c (.d w')] [] = some (.c (.d (.bool (all2 eqQ u v))), H) by
    obtain ⟨H, h⟩ := h
    exact vcall_of h rfl
  rw [hX.fn hF]
  have v114 := hX.vc (k := 114) (F := fn114) rfl (f114 hX (N := N) (by omega) hw hw' hu hv hlen hns)
  have hm : ∀ H : Heap, mapO (deepC H deepMax) [] = some [] := fun H => rfl
  refine ⟨[], (rf_fin _ _ _ _ _ _ _ _ _ (by rfl)).trans ?_⟩
  simp only [v114, evs, Nat.reduceAdd, Nat.reduceSub]
end Mini
end Go.Proofs.YtjnghfhccjogeaaGreatDoor
namespace Go.Proofs.YtjnghfhccjogeaaGreatDoor
namespace Mini
open Go
variable {m : Int} {X : Ctx}
structure Po where
  id : Oid
  w : D
  qs : List Qu
def Po.ds (p : Po) : List D := oD p.id ++ [p.w]
structure Po.ok (p : Po) : Prop where
  i : wfO p.id
  s : isSl Qu.ds p.w p.qs
  q : ∀ q ∈ p.qs, q.ok
theorem Po.len {p : Po} (h : p.ok) : p.ds.length = 18 := by simp [Po.ds, oD_len h.i]
structure Mp where
  a : Oid
  b : Oid
def Mp.ds (p : Mp) : List D := oD p.a ++ oD p.b
structure Mp.ok (p : Mp) : Prop where
  a : wfO p.a
  b : wfO p.b
theorem Mp.len {p : Mp} (h : p.ok) : p.ds.length = 34 := by simp [Mp.ds, oD_len h.a, oD_len h.b]
structure Re where
  si : Bool
  hp : Bool
  pw : D
  ps : List Po
  hm : Bool
  mw : D
  ms : List Mp
  r1 : Int
  r2 : Int
  r3 : Int
def Re.ds (r : Re) : List D := [.bool r.si, .bool r.hp, r.pw, .bool r.hm, r.mw, .int .i64 r.r1, .int .i64 r.r2, .int .i64 r.r3]
structure Re.ok (r : Re) : Prop where
  p : isSl Po.ds r.pw r.ps
  m : isSl Mp.ds r.mw r.ms
  ps : ∀ p ∈ r.ps, p.ok
  ms : ∀ p ∈ r.ms, p.ok
def eqP (a b : Po) : Bool := decide (a.id = b.id) && all2 eqQ a.qs b.qs
def eqM (a b : Mp) : Bool := decide (a.a = b.a) && decide (a.b = b.b)
def eqR (a b : Re) : Bool := (a.si == b.si) && ((a.hp == b.hp) && ((a.hm == b.hm) && ((a.r1 == b.r1) && ((a.r2 == b.r2) && ((a.r3 == b.r3) && (all2 eqM a.ms b.ms && all2 eqP a.ps b.ps))))))
theorem eqP_self (a : Po) : eqP a a = true := by simp [eqP, all2_self (fun q _ => eqQ_self q)]
theorem eqM_self (a : Mp) : eqM a a = true := by simp [eqM]
theorem eqR_self (a : Re) : eqR a a = true := by simp [eqR, all2_self (fun q _ => eqP_self q), all2_self (fun q _ => eqM_self q)]
theorem eqP_sym (a b : Po) : eqP a b = eqP b a := by
  unfold eqP
  rw [dec_sym a.id, all2_sym (fun x _ y _ => eqQ_sym x y)]
theorem eqM_sym (a b : Mp) : eqM a b = eqM b a := by
  unfold eqM
  rw [dec_sym a.a, dec_sym a.b]
theorem eqR_sym (a b : Re) : eqR a b = eqR b a := by
  unfold eqR
  rw [beq_sym a.si, beq_sym a.hp, beq_sym a.hm, beq_sym a.r1, beq_sym a.r2, beq_sym a.r3, all2_sym (fun x _ y _ => eqM_sym x y), all2_sym (fun x _ y _ => eqP_sym x y)]
theorem eqMd {a b : Mp} (ha : a.ok) (hb : b.ok) : eqInts (a.ds.map .d) (b.ds.map .d) = some (eqM a b) := by
  have h := eqInts_app (eqO ha.a hb.a) (eqO ha.b hb.b)
  simp only [Mp.ds, List.map_append]
  exact h
theorem f76 (hX : XOs m X) {N : Nat} {a b : Po} (hN : 200 ≤ N) (ha : a.ok) (hb : b.ok) (hs : a.qs.length ≤ 10 ∧ ∀ q ∈ a.qs, q.ns.length ≤ 20) (H : Heap) : ∃ H', callN X N (.d (.fn 76 [] [])) [.agg (a.ds.map .d), .agg (b.ds.map .d)] H = some (.c (.d (.bool (eqP a b))), H ++ H') := by
  obtain ⟨N, rfl⟩ : ∃ M, N = M + 1 := ⟨N - 1, by omega⟩
  have hF : fnsS 76 = some fn76 := rfl
  rw [hX.fn hF]
  refine ⟨[.cells (a.ds.map .d) 0 false, .cells (b.ds.map .d) 0 false], ?_⟩
  have v77 := hX.vc (k := 77) (F := fn77) rfl (f77 hX (N := N) (by omega) ha.s hb.s ha.q hb.q (by omega) hs.2)
  have vi := eqO ha.i hb.i
  have l9 : (oC a.id).length = 17 := oC_len ha.i
  have l9' : (oC b.id).length = 17 := oC_len hb.i
  have p0 : List.take 17 (List.drop 0 (a.ds.map C.d)) = oC a.id := by simp only [Po.ds, List.map_append, List.drop_zero]; rw [← l9]; exact List.take_left
  have q0 : List.take 17 (List.drop 0 (b.ds.map C.d)) = oC b.id := by simp only [Po.ds, List.map_append, List.drop_zero]; rw [← l9']; exact List.take_left
  have p1 : List.take 1 (List.drop 17 (a.ds.map C.d)) = [.d a.w] := by simp only [Po.ds, List.map_append]; rw [← l9]; show List.take 1 (List.drop (oC a.id).length (oC a.id ++ _)) = _; rw [List.drop_left]; rfl
  have q1 : List.take 1 (List.drop 17 (b.ds.map C.d)) = [.d b.w] := by simp only [Po.ds, List.map_append]; rw [← l9']; show List.take 1 (List.drop (oC b.id).length (oC b.id ++ _)) = _; rw [List.drop_left]; rfl
  generalize a.ds.map C.d = ca at *
  generalize b.ds.map C.d = cb at *
  refine (rf_fin _ _ _ _ _ _ _ _ _ (by rfl)).trans ?_
  have at0'' : (H ++ [Ob.cells ca 0 false, Ob.cells cb 0 false])[H.length]? = some (Ob.cells ca 0 false) := at0
  have at1' : (H ++ [Ob.cells ca 0 false, Ob.cells cb 0 false])[H.length + 1]? = some (Ob.cells cb 0 false) := at1
  have bf : ∀ x : Bool, (false ^^ x) = x := fun x => by cases x <;> rfl
  unfold eqP
  cases c1 : decide (a.id = b.id) <;> simp only [Bool.false_and, Bool.true_and]
  case false => simp only [p0, q0, l9, l9', vi, bf, c1, at0'', at1', List.append_assoc, List.length_append, evs, Nat.reduceAdd, Nat.reduceSub]
  simp only [p0, q0, p1, q1, l9, l9', vi, v77, bf, c1, at0'', at1', List.append_assoc, List.length_append, evs, Nat.reduceAdd, Nat.reduceSub]
set_option maxHeartbeats 2000000 in
theorem f75 (hX : XOs m X) {N : Nat} {w w' : D} {u v : List Po} (hN : u.length + 300 ≤ N) (hw : isSl Po.ds w u) (hw' : isSl Po.ds w' v) (hu : ∀ a ∈ u, a.ok) (hv : ∀ b ∈ v, b.ok) (hlen : u.length < 1000000) (hns : ∀ a ∈ u, a.qs.length ≤ 10 ∧ ∀ q ∈ a.qs, q.ns.length ≤ 20) : vcallN X N 75 [.c (.d w), .c (.d w'), .c (.d (.fn 76 [] []))] = some (.c (.d (.bool (all2 eqP u v)))) := by
  obtain ⟨N, rfl⟩ : ∃ M, N = M + 1 := ⟨N - 1, by omega⟩
  have hF : fnsS 75 = some fn75 := rfl
  suffices h : ∃ H, callN X (N + 1) (.d (.fn 75 [] [])) [.c (.d w), .c (.d w'), .c (.d (.fn 76 [] []))] [] = some (.c (.d (.bool (all2 eqP u v))), H) by
    obtain ⟨H, h⟩ := h
    exact vcall_of h rfl
  rw [hX.fn hF]
  have hlw := hw.len
  have hlw' := hw'.len
  by_cases c0 : u.length = v.length
  case neg =>
    have g0 : ((u.length : Int) != (v.length : Int)) = true := by rw [bne_iff_ne]; omega
    have : all2 eqP u v = false := by
      cases h : all2 eqP u v
      · rfl
      · exact absurd (all2_len h) c0
    rw [this]
    refine ⟨[], (rf_fin _ _ _ _ _ _ _ _ _ (by rfl)).trans ?_⟩
    simp only [hlw, hlw', g0, ↓sp_len, evs, Nat.reduceAdd, Nat.reduceSub]
  have g0 : ((u.length : Int) != (v.length : Int)) = false := by rw [bne_eq_false_iff_eq]; omega
  have step : ∀ (j : Nat) (a b : Po), u[j]? = some a → v[j]? = some b → ∃ H' : Heap, exec (zenv X N) N false fn75L0 ⟨[.any, .c (.d w'), .c (.d (.fn 76 [] [])), .any, .any, .any, .any, .any, .c (.d w), i64 (u.length : Int), i64 (j : Int), .any, .any], []⟩ = some (if eqP a b then (.nrm, ⟨[.any, .c (.d w'), .c (.d (.fn 76 [] [])), .any, i64 (j : Int), .c (.ptr 0 0 0), .c (.ptr 1 0 0), .any, .c (.d w), i64 (u.length : Int), i64 ((j + 1 : Nat) : Int), bl true, bl false], H'⟩) else (.ret, ⟨[.any, .c (.d w'), .c (.d (.fn 76 [] [])), bl false, i64 (j : Int), .c (.ptr 0 0 0), .c (.ptr 1 0 0), .any, .c (.d w), i64 (u.length : Int), i64 (j : Int), bl true, bl true], H'⟩)) := by
    intro j a b ha hb
    have hj := (List.getElem?_eq_some_iff.1 ha).1
    have oka := hu _ (List.mem_of_getElem? ha)
    have okb := hv _ (List.mem_of_getElem? hb)
    obtain ⟨t, h1⟩ := hw.at (sz := 18) (fun x hx => Po.len (hu x hx)) (by omega) ha
    obtain ⟨t', h2⟩ := hw'.at (sz := 18) (fun x hx => Po.len (hv x hx)) (by omega) hb
    have h4 : (j : Int) < (u.length : Int) := by omega
    have h5 := wrap_succ (k := j) (by omega)
    have k1 : List.map C.d (List.take 18 (a.ds ++ t)) = a.ds.map C.d := by rw [← Po.len oka, List.take_left]
    have k2 : List.map C.d (List.take 18 (b.ds ++ t')) = b.ds.map C.d := by rw [← Po.len okb, List.take_left]
    have l1 : (a.ds.map C.d).length = 18 := by rw [List.length_map, Po.len oka]
    have l2 : (b.ds.map C.d).length = 18 := by rw [List.length_map, Po.len okb]
    have t1 : List.take 18 (List.drop 0 (a.ds.map C.d)) = a.ds.map C.d := by rw [List.drop_zero, ← l1, List.take_length]
    have t2 : List.take 18 (List.drop 0 (b.ds.map C.d)) = b.ds.map C.d := by rw [List.drop_zero, ← l2, List.take_length]
    obtain ⟨H', hc⟩ := f76 hX (N := N) (a := a) (b := b) (by omega) oka okb (hns a (List.mem_of_getElem? ha)) [.cells (a.ds.map C.d) 0 false, .cells (b.ds.map C.d) 0 false]
    refine ⟨[.cells (a.ds.map C.d) 0 false, .cells (b.ds.map C.d) 0 false] ++ H', ?_⟩
    generalize a.ds.map C.d = ca at *
    generalize b.ds.map C.d = cb at *
    have ht : List.take 18 (List.drop 0 ca) = ca := t1
    cases he : eqP a b <;> simp only [he] at hc <;> simp only [fn75L0, h1, h2, h4, h5, k1, k2, l1, l2, t1, t2, hc, List.map_cons, List.map_nil, Bool.not_true, Bool.not_false, ↓sp_ixa, evs]
  have hsc := iter_all2 (e := eqP) (u := u) (v := v) (js := some [1, 2, 8, 9, 10]) (hl := 0) (body := exec (zenv X N) N false fn75L0) (fun i => ⟨[.any, .c (.d w'), .c (.d (.fn 76 [] [])), .any, .any, .any, .any, .any, .c (.d w), i64 (u.length : Int), i64 (i : Int), .any, .any], []⟩) (b := 0) (s1 := ⟨[.any, .c (.d w'), .c (.d (.fn 76 [] [])), .any, .any, .any, .any, .any, .c (.d w), i64 (u.length : Int), i64 (u.length : Int), bl false, .any], []⟩) (Q := fun s => nth s.regs 3 = bl false) (fuel := N) c0 (by omega)
    (by
      intro j a b ha hb he
      obtain ⟨H', h⟩ := step j a b ha hb
      rw [he, if_pos rfl] at h
      exact ⟨_, h, gc_back (H := []) (t := H') 0 rfl rfl Hp.nil⟩)
    (by simp only [fn75L0, evs])
    (by
      intro j a b ha hb he
      obtain ⟨H', h⟩ := step j a b ha hb
      rw [he, if_neg (by simp)] at h
      exact ⟨_, h, rfl⟩)
  simp only [i64, bl, Int.natCast_zero] at hsc
  rcases hsc with ⟨he, hit⟩ | ⟨he, s', hq, hit⟩
  · rw [he]
    refine ⟨[], (rf_fin _ _ _ _ _ _ _ _ _ (by rfl)).trans ?_⟩
    simp only [hlw, hlw', g0, hit, ↓sp_len, evs, Nat.reduceAdd, Nat.reduceBEq, Nat.reduceSub]
  · rw [he]
    refine ⟨s'.heap, (rf_fin _ _ _ _ _ _ _ _ _ (by rfl)).trans ?_⟩
    obtain ⟨r, H⟩ := s'
    simp only [] at hq
    simp only [hlw, hlw', g0, hit, hq, ↓sp_len, evs, Nat.reduceAdd, Nat.reduceBEq, Nat.reduceSub]
set_option maxHeartbeats 2000000 in
theorem f74 (hX : XOs m X) {N : Nat} {w w' : D} {u v : List Mp} (hN : u.length + 20 ≤ N) (hw : isSl Mp.ds w u) (hw' : isSl Mp.ds w' v) (hu : ∀ a ∈ u, a.ok) (hv : ∀ b ∈ v, b.ok) (hlen : u.length < 1000000) : vcallN X N 74 [.c (.d w), .c (.d w')] = some (.c (.d (.bool (all2 eqM u v)))) := by
  obtain ⟨N, rfl⟩ : ∃ M, N = M + 1 := ⟨N - 1, by omega⟩
  have hF : fnsS 74 = some fn74 := rfl
  suffices h : ∃ H, callN X (N + 1) (.d (.fn 74 [] [])) [.c (.d w), .c (.d w')] [] = some (.c (.d (.bool (all2 eqM u v))), H) by
    obtain ⟨H, h⟩ := h
    exact vcall_of h rfl
  rw [hX.fn hF]
  have hlw := hw.len
  have hlw' := hw'.len
  by_cases c0 : u.length = v.length
  case neg =>
    have g0 : ((u.length : Int) != (v.length : Int)) = true := by rw [bne_iff_ne]; omega
    have : all2 eqM u v = false := by
      cases h : all2 eqM u v
      · rfl
      · exact absurd (all2_len h) c0
    rw [this]
    refine ⟨[], (rf_fin _ _ _ _ _ _ _ _ _ (by rfl)).trans ?_⟩
    simp only [hlw, hlw', g0, ↓sp_len, evs, Nat.reduceAdd, Nat.reduceSub]
  have g0 : ((u.length : Int) != (v.length : Int)) = false := by rw [bne_eq_false_iff_eq]; omega
  have step : ∀ (j : Nat) (a b : Mp), u[j]? = some a → v[j]? = some b → exec (zenv X N) N false fn74L0 ⟨[.c (.d w), .c (.d w'), .any, .any, .any, i64 (u.length : Int), i64 (j : Int), .any, .any], []⟩ = some (if eqM a b then (.nrm, ⟨[.c (.d w), .c (.d w'), .any, i64 (j : Int), .any, i64 (u.length : Int), i64 ((j + 1 : Nat) : Int), bl true, bl false], []⟩) else (.ret, ⟨[.c (.d w), .c (.d w'), bl false, i64 (j : Int), .any, i64 (u.length : Int), i64 (j : Int), bl true, bl true], []⟩)) := by
    intro j a b ha hb
    have hj := (List.getElem?_eq_some_iff.1 ha).1
    have oka := hu _ (List.mem_of_getElem? ha)
    have okb := hv _ (List.mem_of_getElem? hb)
    obtain ⟨t, h1⟩ := hw.at (sz := 34) (fun x hx => Mp.len (hu x hx)) (by omega) ha
    obtain ⟨t', h2⟩ := hw'.at (sz := 34) (fun x hx => Mp.len (hv x hx)) (by omega) hb
    have h4 : (j : Int) < (u.length : Int) := by omega
    have h5 := wrap_succ (k := j) (by omega)
    have k1 : List.map C.d (List.take 34 (a.ds ++ t)) = a.ds.map C.d := by rw [← Mp.len oka, List.take_left]
    have k2 : List.map C.d (List.take 34 (b.ds ++ t')) = b.ds.map C.d := by rw [← Mp.len okb, List.take_left]
    have l1 : (a.ds.map C.d).length = 34 := by rw [List.length_map, Mp.len oka]
    have l2 : (b.ds.map C.d).length = 34 := by rw [List.length_map, Mp.len okb]
    have vi := eqMd oka okb
    generalize a.ds.map C.d = ca at *
    generalize b.ds.map C.d = cb at *
    have b1 : (true ^^ true) = false := rfl
    have b2 : (true ^^ false) = true := rfl
    cases he : eqM a b <;> rw [he] at vi <;> simp only [fn74L0, h1, h2, h4, h5, k1, k2, l1, l2, vi, b1, b2, ↓sp_ixa, evs]
  have hsc := iter_all2 (e := eqM) (u := u) (v := v) (js := some [0, 1, 5, 6]) (hl := 0) (body := exec (zenv X N) N false fn74L0) (fun i => ⟨[.c (.d w), .c (.d w'), .any, .any, .any, i64 (u.length : Int), i64 (i : Int), .any, .any], []⟩) (b := 0) (s1 := ⟨[.c (.d w), .c (.d w'), .any, .any, .any, i64 (u.length : Int), i64 (u.length : Int), bl false, .any], []⟩) (Q := fun s => nth s.regs 2 = bl false) (fuel := N) c0 (by omega)
    (by
      intro j a b ha hb he
      have h := step j a b ha hb
      rw [he, if_pos rfl] at h
      exact ⟨_, h, gc_le (Nat.le_refl 0)⟩)
    (by simp only [fn74L0, evs])
    (by
      intro j a b ha hb he
      have h := step j a b ha hb
      rw [he, if_neg (by simp)] at h
      exact ⟨_, h, rfl⟩)
  simp only [i64, bl, Int.natCast_zero] at hsc
  rcases hsc with ⟨he, hit⟩ | ⟨he, s', hq, hit⟩
  · rw [he]
    refine ⟨[], (rf_fin _ _ _ _ _ _ _ _ _ (by rfl)).trans ?_⟩
    simp only [hlw, hlw', g0, hit, ↓sp_len, evs, Nat.reduceAdd, Nat.reduceBEq, Nat.reduceSub]
  · rw [he]
    refine ⟨s'.heap, (rf_fin _ _ _ _ _ _ _ _ _ (by rfl)).trans ?_⟩
    obtain ⟨r, H⟩ := s'
    simp only [] at hq
    simp only [hlw, hlw', g0, hit, hq, ↓sp_len, evs, Nat.reduceAdd, Nat.reduceBEq, Nat.reduceSub]
structure Re.sm (r : Re) : Prop where
  ps : r.ps.length ≤ 70
  ms : r.ms.length ≤ 70
  qs : ∀ p ∈ r.ps, p.qs.length ≤ 10 ∧ ∀ q ∈ p.qs, q.ns.length ≤ 20
abbrev Re.cs (r : Re) : List C := [.d (.bool r.si), .d (.bool r.hp), .d r.pw, .d (.bool r.hm), .d r.mw, .d (.int .i64 r.r1), .d (.int .i64 r.r2), .d (.int .i64 r.r3)]
set_option maxHeartbeats 2000000 in
theorem f46 (hX : XOs m X) {N : Nat} {a b : Re} (hN : 500 ≤ N) (ha : a.ok) (hb : b.ok) (hs : a.sm) : vcallN X N 46 [.agg a.cs, .agg b.cs] = some (.c (.d (.bool (eqR a b)))) := by
  obtain ⟨N, rfl⟩ : ∃ M, N = M + 1 := ⟨N - 1, by omega⟩
  have hF : fnsS 46 = some fn46 := rfl
  suffices h : ∃ H, callN X (N + 1) (.d (.fn 46 [] [])) [.agg a.cs, .agg b.cs] [] = some (.c (.d (.bool (eqR a b))), H) by
    obtain ⟨H, h⟩ := h
    exact vcall_of h rfl
  rw [hX.fn hF]
  have s1 := hs.ps
  have s2 := hs.ms
  have v74 := hX.vc (k := 74) (F := fn74) rfl (f74 hX (N := N) (by omega) ha.m hb.m ha.ms hb.ms (by omega))
  have v75 := hX.vc (k := 75) (F := fn75) rfl (f75 hX (N := N) (by omega) ha.p hb.p ha.ps hb.ps (by omega) hs.qs)
  have hm : ∀ H : Heap, mapO (deepC H deepMax) [] = some [] := fun H => rfl
  have b1 : ∀ x : Bool, (true ^^ x) = !x := fun x => by cases x <;> rfl
  refine ⟨[.cells a.cs 0 false, .cells b.cs 0 false], (rf_fin _ _ _ _ _ _ _ _ _ (by rfl)).trans ?_⟩
  unfold eqR
  cases c1 : (a.si == b.si) <;> simp only [Bool.false_and, Bool.true_and]
  case false => simp only [c1, b1, Bool.not_false, List.take, List.drop, evs, Nat.reduceAdd, Nat.reduceSub]
  cases c2 : (a.hp == b.hp) <;> simp only [Bool.false_and, Bool.true_and]
  case false => simp only [c1, c2, b1, Bool.not_true, Bool.not_false, List.take, List.drop, evs, Nat.reduceAdd, Nat.reduceSub]
  cases c3 : (a.hm == b.hm) <;> simp only [Bool.false_and, Bool.true_and]
  case false => simp only [c1, c2, c3, b1, Bool.not_true, Bool.not_false, List.take, List.drop, evs, Nat.reduceAdd, Nat.reduceSub]
  cases c4 : (a.r1 == b.r1) <;> simp only [Bool.false_and, Bool.true_and]
  case false => simp only [c1, c2, c3, c4, b1, bne, Bool.not_true, Bool.not_false, List.take, List.drop, evs, Nat.reduceAdd, Nat.reduceSub]
  cases c5 : (a.r2 == b.r2) <;> simp only [Bool.false_and, Bool.true_and]
  case false => simp only [c1, c2, c3, c4, c5, b1, bne, Bool.not_true, Bool.not_false, List.take, List.drop, evs, Nat.reduceAdd, Nat.reduceSub]
  cases c6 : (a.r3 == b.r3) <;> simp only [Bool.false_and, Bool.true_and]
  case false => simp only [c1, c2, c3, c4, c5, c6, b1, bne, Bool.not_true, Bool.not_false, List.take, List.drop, evs, Nat.reduceAdd, Nat.reduceSub]
  cases c7 : (all2 eqM a.ms b.ms) <;> simp only [Bool.false_and, Bool.true_and]
  case false => simp only [c1, c2, c3, c4, c5, c6, c7, v74, b1, bne, Bool.not_true, Bool.not_false, List.take, List.drop, evs, Nat.reduceAdd, Nat.reduceSub]
  simp only [c1, c2, c3, c4, c5, c6, c7, v74, v75, b1, bne, Bool.not_true, List.take, List.drop, evs, Nat.reduceAdd, Nat.reduceSub]
end Mini
end Go.Proofs.YtjnghfhccjogeaaGreatDoor
namespace Go.Proofs.YtjnghfhccjogeaaGreatDoor
namespace Mini
open Go
variable {m : Int} {X : Ctx}
theorem all2_nolen {α : Type} {e : α → α → Bool} {u v : List α} (h : u.length ≠ v.length) : all2 e u v = false := by
  cases h' : all2 e u v
  · rfl
  · exact absurd (all2_len h') h
set_option maxHeartbeats 4000000 in
theorem f61 (hX : XOs m X) {N : Nat} {a b : Qu} (hN : a.ns.length + 20 ≤ N) (ha : a.ok) (hb : b.ok) (hlen : a.ns.length < 1000000) : vcallN X N 61 [.agg (a.ds.map .d), .agg (b.ds.map .d)] = some (.c (.d (.bool (eqQ a b)))) := by
  obtain ⟨N, rfl⟩ : ∃ M, N = M + 1 := ⟨N - 1, by omega⟩
  have hF : fnsS 61 = some fn61 := rfl
  suffices h : ∃ H, callN X (N + 1) (.d (.fn 61 [] [])) [.agg (a.ds.map .d), .agg (b.ds.map .d)] [] = some (.c (.d (.bool (eqQ a b))), H) by
    obtain ⟨H, h⟩ := h
    exact vcall_of h rfl
  rw [hX.fn hF]
  obtain ⟨p0, p1, p2, p3, p5, p6, p7, p9, p26⟩ := Qu.at ha
  obtain ⟨q0, q1, q2, q3, q5, q6, q7, q9, q26⟩ := Qu.at hb
  have hlw := ha.n.len
  have hlw' := hb.n.len
  have r1 := fun H => ha.r.b2s ha.b H
  have r2 := fun H => hb.r.b2s hb.b H
  have vi := eqO ha.i hb.i
  have l9 : (oC a.id).length = 17 := oC_len ha.i
  have l9' : (oC b.id).length = 17 := oC_len hb.i
  have hw := ha.n
  have hw' := hb.n
  generalize a.ds.map C.d = ca at *
  generalize b.ds.map C.d = cb at *
  have b1 : ∀ x : Bool, (true ^^ x) = !x := fun x => by cases x <;> rfl
  cases c1 : (a.k == b.k)
  case false =>
    have e0 : eqQ a b = false := by simp only [eqQ, c1, Bool.and_true, Bool.false_and]
    rw [e0]
    exact ⟨[.cells ca 0 false, .cells cb 0 false], (rf_fin _ _ _ _ _ _ _ _ _ (by rfl)).trans (by simp only [c1, p0, q0, bne, Bool.not_false, evs, Nat.reduceAdd, Nat.reduceSub])⟩
  cases c2 : (a.uri == b.uri)
  case false =>
    have e0 : eqQ a b = false := by simp only [eqQ, c1, c2, Bool.and_true, Bool.false_and, Bool.and_false]
    rw [e0]
    exact ⟨[.cells ca 0 false, .cells cb 0 false], (rf_fin _ _ _ _ _ _ _ _ _ (by rfl)).trans (by simp only [c1, c2, p0, q0, p1, q1, bne, binStr, Bool.not_true, Bool.not_false, evs, Nat.reduceAdd, Nat.reduceSub])⟩
  cases c3 : (a.hr == b.hr)
  case false =>
    have e0 : eqQ a b = false := by simp only [eqQ, c1, c2, c3, Bool.and_true, Bool.false_and, Bool.and_false]
    rw [e0]
    exact ⟨[.cells ca 0 false, .cells cb 0 false], (rf_fin _ _ _ _ _ _ _ _ _ (by rfl)).trans (by simp only [c1, c2, c3, p0, q0, p1, q1, p2, q2, b1, bne, binStr, Bool.not_true, Bool.not_false, evs, Nat.reduceAdd, Nat.reduceSub])⟩
  cases c4 : (a.o == b.o && (a.os == b.os))
  case false =>
    have e0 : eqQ a b = false := by simp only [eqQ, c1, c2, c3, c4, Bool.and_true, Bool.false_and, Bool.and_false]
    rw [e0]
    exact ⟨[.cells ca 0 false, .cells cb 0 false], (rf_fin _ _ _ _ _ _ _ _ _ (by rfl)).trans (by simp only [c1, c2, c3, c4, p0, q0, p1, q1, p2, q2, p3, q3, b1, bne, binStr, hasKinds, isKind, eqK, eqCell, Bool.not_true, Bool.not_false, evs, Nat.reduceAdd, Nat.reduceSub, Bool.and_self, Bool.and_true])⟩
  cases c5 : (a.ht == b.ht)
  case false =>
    have e0 : eqQ a b = false := by simp only [eqQ, c1, c2, c3, c4, c5, Bool.and_true, Bool.false_and, Bool.and_false]
    rw [e0]
    exact ⟨[.cells ca 0 false, .cells cb 0 false], (rf_fin _ _ _ _ _ _ _ _ _ (by rfl)).trans (by simp only [c1, c2, c3, c4, c5, p0, q0, p1, q1, p2, q2, p3, q3, p6, q6, b1, bne, binStr, hasKinds, isKind, eqK, eqCell, Bool.not_true, Bool.not_false, evs, Nat.reduceAdd, Nat.reduceSub, Bool.and_self, Bool.and_true])⟩
  cases c6 : (a.t == b.t && (a.ts == b.ts))
  case false =>
    have e0 : eqQ a b = false := by simp only [eqQ, c1, c2, c3, c4, c5, c6, Bool.and_true, Bool.false_and, Bool.and_false]
    rw [e0]
    exact ⟨[.cells ca 0 false, .cells cb 0 false], (rf_fin _ _ _ _ _ _ _ _ _ (by rfl)).trans (by simp only [c1, c2, c3, c4, c5, c6, p0, q0, p1, q1, p2, q2, p3, q3, p6, q6, p7, q7, b1, bne, binStr, hasKinds, isKind, eqK, eqCell, Bool.not_true, Bool.not_false, evs, Nat.reduceAdd, Nat.reduceSub, Bool.and_self, Bool.and_true])⟩
  cases c7 : (decide (a.id = b.id))
  case false =>
    have e0 : eqQ a b = false := by simp only [eqQ, c1, c2, c3, c4, c5, c6, c7, Bool.and_true, Bool.false_and, Bool.and_false]
    rw [e0]
    exact ⟨[.cells ca 0 false, .cells cb 0 false], (rf_fin _ _ _ _ _ _ _ _ _ (by rfl)).trans (by simp only [c1, c2, c3, c4, c5, c6, c7, p0, q0, p1, q1, p2, q2, p3, q3, p6, q6, p7, q7, p9, q9, l9, l9', vi, b1, bne, binStr, hasKinds, isKind, eqK, eqCell, Bool.not_true, Bool.not_false, evs, Nat.reduceAdd, Nat.reduceSub, Bool.and_self, Bool.and_true])⟩
  cases c8 : (a.raw == b.raw)
  case false =>
    have e0 : eqQ a b = false := by simp only [eqQ, c1, c2, c3, c4, c5, c6, c7, c8, Bool.and_true, Bool.and_false]
    rw [e0]
    exact ⟨[.cells ca 0 false, .cells cb 0 false], (rf_fin _ _ _ _ _ _ _ _ _ (by rfl)).trans (by simp only [c1, c2, c3, c4, c5, c6, c7, c8, p0, q0, p1, q1, p2, q2, p3, q3, p6, q6, p7, q7, p9, q9, p26, q26, l9, l9', vi, r1, r2, b1, bne, binStr, hasKinds, isKind, eqK, eqCell, Bool.not_true, Bool.not_false, ↓sp_b2s, evs, Nat.reduceAdd, Nat.reduceSub, Bool.and_self, Bool.and_true])⟩
  by_cases c0 : a.ns.length = b.ns.length
  case neg =>
    have g0 : ((a.ns.length : Int) == (b.ns.length : Int)) = false := by rw [beq_eq_false_iff_ne]; omega
    have e1 : decide (a.ns = b.ns) = false := by rw [decide_eq_false_iff_not]; exact fun h => c0 (by rw [h])
    have e0 : eqQ a b = false := by simp only [eqQ, e1, Bool.and_true, Bool.false_and, Bool.and_false]
    rw [e0]
    exact ⟨[.cells ca 0 false, .cells cb 0 false], (rf_fin _ _ _ _ _ _ _ _ _ (by rfl)).trans (by simp only [g0, c1, c2, c3, c4, c5, c6, c7, c8, p0, q0, p1, q1, p2, q2, p3, q3, p5, q5, p6, q6, p7, q7, p9, q9, p26, q26, l9, l9', vi, hlw, hlw', r1, r2, b1, bne, binStr, hasKinds, isKind, eqK, eqCell, Bool.not_true, Bool.not_false, ↓sp_len, ↓sp_b2s, evs, Nat.reduceAdd, Nat.reduceSub, Bool.and_self, Bool.and_true])⟩
  have g0 : ((a.ns.length : Int) == (b.ns.length : Int)) = true := by rw [beq_iff_eq]; omega
  have e0 : eqQ a b = decide (a.ns = b.ns) := by simp only [eqQ, c1, c2, c3, c4, c5, c6, c7, c8, Bool.and_true, Bool.true_and]
  rw [e0]
  have hsc := iter_all2 (e := fun a b => a == b) (u := a.ns) (v := b.ns) (js := some [2, 3, 5]) (hl := 2) (body := exec (zenv X N) N false fn61L0) (fun i => ⟨[.any, .any, .c (.ptr 0 0 0), .c (.ptr 1 0 0), .any, i64 (i : Int), .any, .any, .any], [.cells ca 0 false, .cells cb 0 false]⟩) (b := 0) (s1 := ⟨[.any, .any, .c (.ptr 0 0 0), .c (.ptr 1 0 0), .any, i64 (a.ns.length : Int), .any, bl false, .any], [.cells ca 0 false, .cells cb 0 false]⟩) (Q := fun s => nth s.regs 4 = bl false) (fuel := N) c0 (by omega)
    (by
      intro j x y hx hy he
      have hj := (List.getElem?_eq_some_iff.1 hx).1
      obtain ⟨t, h1⟩ := hw.at (sz := 1) (fun _ _ => rfl) (by omega) hx
      obtain ⟨t', h2⟩ := hw'.at (sz := 1) (fun _ _ => rfl) (by omega) hy
      have h4 : (j : Int) < (a.ns.length : Int) := by omega
      have h5 := wrap_succ (k := j) (by omega)
      simp only [nD, List.cons_append, List.nil_append] at h1 h2
      refine ⟨⟨[.any, .any, .c (.ptr 0 0 0), .c (.ptr 1 0 0), .any, i64 ((j + 1 : Nat) : Int), .any, bl true, bl false], [.cells ca 0 false, .cells cb 0 false]⟩, ?_, gc_le (Nat.le_refl 2)⟩
      simp only [fn61L0, h1, h2, h4, h5, he, p5, q5, hlw, bne, Bool.not_true, List.take, List.map_cons, List.map_nil, ↓sp_len, ↓sp_ixa, evs])
    (by simp only [fn61L0, p5, hlw, ↓sp_len, evs])
    (by
      intro j x y hx hy he
      have hj := (List.getElem?_eq_some_iff.1 hx).1
      obtain ⟨t, h1⟩ := hw.at (sz := 1) (fun _ _ => rfl) (by omega) hx
      obtain ⟨t', h2⟩ := hw'.at (sz := 1) (fun _ _ => rfl) (by omega) hy
      have h4 : (j : Int) < (a.ns.length : Int) := by omega
      simp only [nD, List.cons_append, List.nil_append] at h1 h2
      refine ⟨⟨[.any, .any, .c (.ptr 0 0 0), .c (.ptr 1 0 0), bl false, i64 (j : Int), .any, bl true, bl true], [.cells ca 0 false, .cells cb 0 false]⟩, ?_, rfl⟩
      simp only [fn61L0, h1, h2, h4, he, p5, q5, hlw, bne, Bool.not_false, List.take, List.map_cons, List.map_nil, ↓sp_len, ↓sp_ixa, evs])
  rw [all2_eq] at hsc
  simp only [i64, bl, Int.natCast_zero] at hsc
  rcases hsc with ⟨he, hit⟩ | ⟨he, s', hq, hit⟩
  · rw [he]
    refine ⟨[.cells ca 0 false, .cells cb 0 false], (rf_fin _ _ _ _ _ _ _ _ _ (by rfl)).trans ?_⟩
    simp only [g0, hit, c1, c2, c3, c4, c5, c6, c7, c8, p0, q0, p1, q1, p2, q2, p3, q3, p5, q5, p6, q6, p7, q7, p9, q9, p26, q26, l9, l9', vi, hlw, hlw', r1, r2, b1, bne, binStr, hasKinds, isKind, eqK, eqCell, Bool.not_true, ↓sp_len, ↓sp_b2s, evs, Nat.reduceAdd, Nat.reduceSub, Bool.and_self, Bool.and_true, Nat.reduceBEq]
  · rw [he]
    refine ⟨s'.heap, (rf_fin _ _ _ _ _ _ _ _ _ (by rfl)).trans ?_⟩
    obtain ⟨r, H⟩ := s'
    simp only [] at hq
    simp only [g0, hit, hq, c1, c2, c3, c4, c5, c6, c7, c8, p0, q0, p1, q1, p2, q2, p3, q3, p5, q5, p6, q6, p7, q7, p9, q9, p26, q26, l9, l9', vi, hlw, hlw', r1, r2, b1, bne, binStr, hasKinds, isKind, eqK, eqCell, Bool.not_true, ↓sp_len, ↓sp_b2s, evs, Nat.reduceAdd, Nat.reduceSub, Bool.and_self, Bool.and_true, Nat.reduceBEq]
set_option maxHeartbeats 2000000 in
theorem f26 (hX : XOs m X) {N : Nat} {w w' : D} {u v : List Qu} (hN : u.length + 60 ≤ N) (hw : isSl Qu.ds w u) (hw' : isSl Qu.ds w' v) (hu : ∀ a ∈ u, a.ok) (hv : ∀ b ∈ v, b.ok) (hlen : u.length < 1000000) (hns : ∀ a ∈ u, a.ns.length ≤ 20) : vcallN X N 26 [.c (.d w), .c (.d w')] = some (.c (.d (.bool (all2 eqQ u v)))) := by
  obtain ⟨N, rfl⟩ : ∃ M, N = M + 1 := ⟨N - 1, by omega⟩
  have hF : fnsS 26 = some fn26 := rfl
  suffices h : ∃ H, callN X (N + 1) (.d (.fn 26 [] [])) [.c (.d w), .c (.d w')] [] = some (.c (.d (.bool (all2 eqQ u v))), H) by
    obtain ⟨H, h⟩ := h
    exact vcall_of h rfl
  rw [hX.fn hF]
  have hlw := hw.len
  have hlw' := hw'.len
  by_cases c0 : u.length = v.length
  case neg =>
    have g0 : ((u.length : Int) != (v.length : Int)) = true := by rw [bne_iff_ne]; omega
    rw [all2_nolen c0]
    refine ⟨[], (rf_fin _ _ _ _ _ _ _ _ _ (by rfl)).trans ?_⟩
    simp only [hlw, hlw', g0, ↓sp_len, evs, Nat.reduceAdd, Nat.reduceSub]
  have g0 : ((u.length : Int) != (v.length : Int)) = false := by rw [bne_eq_false_iff_eq]; omega
  have step : ∀ (j : Nat) (a b : Qu), u[j]? = some a → v[j]? = some b → exec (zenv X N) N false fn26L0 ⟨[.c (.d w), .c (.d w'), .any, i64 (j : Int), .any, .any, .any], []⟩ = some (if eqQ a b then (.nrm, ⟨[.c (.d w), .c (.d w'), .any, i64 ((j + 1 : Nat) : Int), .any, bl true, bl false], []⟩) else (.ret, ⟨[.c (.d w), .c (.d w'), bl false, i64 (j : Int), .any, bl true, bl true], []⟩)) := by
    intro j a b ha hb
    have hj := (List.getElem?_eq_some_iff.1 ha).1
    have oka := hu _ (List.mem_of_getElem? ha)
    have okb := hv _ (List.mem_of_getElem? hb)
    obtain ⟨t, h1⟩ := hw.at (sz := 27) (fun x hx => Qu.len (hu x hx)) (by omega) ha
    obtain ⟨t', h2⟩ := hw'.at (sz := 27) (fun x hx => Qu.len (hv x hx)) (by omega) hb
    have h4 : (j : Int) < (u.length : Int) := by omega
    have h5 := wrap_succ (k := j) (by omega)
    have k1 : List.map C.d (List.take 27 (a.ds ++ t)) = a.ds.map C.d := by rw [← Qu.len oka, List.take_left]
    have k2 : List.map C.d (List.take 27 (b.ds ++ t')) = b.ds.map C.d := by rw [← Qu.len okb, List.take_left]
    have l1 : (a.ds.map C.d).length = 27 := by rw [List.length_map, Qu.len oka]
    have l2 : (b.ds.map C.d).length = 27 := by rw [List.length_map, Qu.len okb]
    have d1 := fun H : Heap => mapO_dc H deepMax a.ds
    have d2 := fun H : Heap => mapO_dc H deepMax b.ds
    have hc := hX.vc (k := 61) (F := fn61) rfl (f61 hX (N := N) (a := a) (b := b) (by have := hns a (List.mem_of_getElem? ha); omega) oka okb (by have := hns a (List.mem_of_getElem? ha); omega))
    generalize hca : a.ds.map C.d = ca at *
    generalize hcb : b.ds.map C.d = cb at *
    cases he : eqQ a b <;> simp only [he] at hc <;> simp only [fn26L0, h1, h2, h4, h5, hlw, k1, k2, l1, l2, d1, d2, hca, hcb, hc, Bool.not_true, Bool.not_false, ↓sp_len, ↓sp_ixa, evs]
  have hsc := iter_all2 (e := eqQ) (u := u) (v := v) (js := some [0, 1, 3]) (hl := 0) (body := exec (zenv X N) N false fn26L0) (fun i => ⟨[.c (.d w), .c (.d w'), .any, i64 (i : Int), .any, .any, .any], []⟩) (b := 0) (s1 := ⟨[.c (.d w), .c (.d w'), .any, i64 (u.length : Int), .any, bl false, .any], []⟩) (Q := fun s => nth s.regs 2 = bl false) (fuel := N) c0 (by omega)
    (by
      intro j a b ha hb he
      have h := step j a b ha hb
      rw [he, if_pos rfl] at h
      exact ⟨_, h, gc_le (Nat.le_refl 0)⟩)
    (by simp only [fn26L0, hlw, ↓sp_len, evs])
    (by
      intro j a b ha hb he
      have h := step j a b ha hb
      rw [he, if_neg (by simp)] at h
      exact ⟨_, h, rfl⟩)
  simp only [i64, bl, Int.natCast_zero] at hsc
  rcases hsc with ⟨he, hit⟩ | ⟨he, s', hq, hit⟩
  · rw [he]
    refine ⟨[], (rf_fin _ _ _ _ _ _ _ _ _ (by rfl)).trans ?_⟩
    simp only [hlw, hlw', g0, hit, ↓sp_len, evs, Nat.reduceAdd, Nat.reduceBEq, Nat.reduceSub]
  · rw [he]
    refine ⟨s'.heap, (rf_fin _ _ _ _ _ _ _ _ _ (by rfl)).trans ?_⟩
    obtain ⟨r, H⟩ := s'
    simp only [] at hq
    simp only [hlw, hlw', g0, hit, hq, ↓sp_len, evs, Nat.reduceAdd, Nat.reduceBEq, Nat.reduceSub]
end Mini
end Go.Proofs.YtjnghfhccjogeaaGreatDoor
namespace Go.Proofs.YtjnghfhccjogeaaGreatDoor
namespace Mini
open Go
variable {m : Int} {X : Ctx}
set_option maxHeartbeats 4000000 in
theorem f47 (hX : XOs m X) {N : Nat} {a b : Re} (hN : 500 ≤ N) (ha : a.ok) (hb : b.ok) (hs : a.sm) : vcallN X N 47 [.agg a.cs, .agg b.cs] = some (i64 (if eqR a b then 1 else 0)) := by
  obtain ⟨N, rfl⟩ : ∃ M, N = M + 1 := ⟨N - 1, by omega⟩
  have hF : fnsS 47 = some fn47 := rfl
  suffices h : ∃ H, callN X (N + 1) (.d (.fn 47 [] [])) [.agg a.cs, .agg b.cs] [] = some (i64 (if eqR a b then 1 else 0), H) by
    obtain ⟨H, h⟩ := h
    exact vcall_of h rfl
  rw [hX.fn hF]
  have s1 := hs.ps
  have s2 := hs.ms
  have hp := ha.p.len
  have hp' := hb.p.len
  have hm := ha.m.len
  have hm' := hb.m.len
  have b1 : ∀ x : Bool, (true ^^ x) = !x := fun x => by cases x <;> rfl
  have i1 : ∀ x y : Int, (if false = true then x else y) = y := fun _ _ => rfl
  simp only [i64]
  cases c1 : (a.si == b.si)
  case false =>
    have e0 : eqR a b = false := by simp only [eqR, c1, Bool.false_and]
    rw [e0]
    exact ⟨[.cells a.cs 0 false, .cells b.cs 0 false], (rf_fin _ _ _ _ _ _ _ _ _ (by rfl)).trans (by simp only [c1, b1, Bool.not_false, List.take, List.drop, evs, Nat.reduceAdd, Nat.reduceSub])⟩
  cases c2 : (a.hp == b.hp)
  case false =>
    have e0 : eqR a b = false := by simp only [eqR, c1, c2, Bool.false_and, Bool.and_false]
    rw [e0]
    exact ⟨[.cells a.cs 0 false, .cells b.cs 0 false], (rf_fin _ _ _ _ _ _ _ _ _ (by rfl)).trans (by simp only [c1, c2, b1, Bool.not_true, Bool.not_false, List.take, List.drop, evs, Nat.reduceAdd, Nat.reduceSub])⟩
  cases c3 : (a.hm == b.hm)
  case false =>
    have e0 : eqR a b = false := by simp only [eqR, c1, c2, c3, Bool.false_and, Bool.and_false]
    rw [e0]
    exact ⟨[.cells a.cs 0 false, .cells b.cs 0 false], (rf_fin _ _ _ _ _ _ _ _ _ (by rfl)).trans (by simp only [c1, c2, c3, b1, Bool.not_true, Bool.not_false, List.take, List.drop, evs, Nat.reduceAdd, Nat.reduceSub])⟩
  cases c4 : (a.r1 == b.r1)
  case false =>
    have e0 : eqR a b = false := by simp only [eqR, c1, c2, c3, c4, Bool.false_and, Bool.and_false]
    rw [e0]
    exact ⟨[.cells a.cs 0 false, .cells b.cs 0 false], (rf_fin _ _ _ _ _ _ _ _ _ (by rfl)).trans (by simp only [c1, c2, c3, c4, b1, bne, Bool.not_true, Bool.not_false, List.take, List.drop, evs, Nat.reduceAdd, Nat.reduceSub])⟩
  cases c5 : (a.r2 == b.r2)
  case false =>
    have e0 : eqR a b = false := by simp only [eqR, c1, c2, c3, c4, c5, Bool.false_and, Bool.and_false]
    rw [e0]
    exact ⟨[.cells a.cs 0 false, .cells b.cs 0 false], (rf_fin _ _ _ _ _ _ _ _ _ (by rfl)).trans (by simp only [c1, c2, c3, c4, c5, b1, bne, Bool.not_true, Bool.not_false, List.take, List.drop, evs, Nat.reduceAdd, Nat.reduceSub])⟩
  cases c6 : (a.r3 == b.r3)
  case false =>
    have e0 : eqR a b = false := by simp only [eqR, c1, c2, c3, c4, c5, c6, Bool.false_and, Bool.and_false]
    rw [e0]
    exact ⟨[.cells a.cs 0 false, .cells b.cs 0 false], (rf_fin _ _ _ _ _ _ _ _ _ (by rfl)).trans (by simp only [c1, c2, c3, c4, c5, c6, b1, bne, Bool.not_true, Bool.not_false, List.take, List.drop, evs, Nat.reduceAdd, Nat.reduceSub])⟩
  by_cases dq1 : a.ps.length = b.ps.length
  case neg =>
    have q1 : ((a.ps.length : Int) == (b.ps.length : Int)) = false := by rw [beq_eq_false_iff_ne]; omega
    have e1 : all2 eqP a.ps b.ps = false := all2_nolen dq1
    have e0 : eqR a b = false := by simp only [eqR, e1, Bool.and_false]
    rw [e0]
    exact ⟨[.cells a.cs 0 false, .cells b.cs 0 false], (rf_fin _ _ _ _ _ _ _ _ _ (by rfl)).trans (by simp only [c1, c2, c3, c4, c5, c6, q1, hp, hp', b1, bne, Bool.not_true, Bool.not_false, List.take, List.drop, ↓sp_len, evs, Nat.reduceAdd, Nat.reduceSub])⟩
  have q1 : ((a.ps.length : Int) == (b.ps.length : Int)) = true := by rw [beq_iff_eq]; omega
  by_cases dq2 : a.ms.length = b.ms.length
  case neg =>
    have q2 : ((a.ms.length : Int) == (b.ms.length : Int)) = false := by rw [beq_eq_false_iff_ne]; omega
    have e1 : all2 eqM a.ms b.ms = false := all2_nolen dq2
    have e0 : eqR a b = false := by simp only [eqR, e1, Bool.false_and, Bool.and_false]
    rw [e0]
    exact ⟨[.cells a.cs 0 false, .cells b.cs 0 false], (rf_fin _ _ _ _ _ _ _ _ _ (by rfl)).trans (by simp only [c1, c2, c3, c4, c5, c6, q1, q2, hp, hp', hm, hm', b1, bne, Bool.not_true, Bool.not_false, List.take, List.drop, ↓sp_len, evs, Nat.reduceAdd, Nat.reduceSub])⟩
  have q2 : ((a.ms.length : Int) == (b.ms.length : Int)) = true := by rw [beq_iff_eq]; omega
  have e0 : eqR a b = (all2 eqM a.ms b.ms && all2 eqP a.ps b.ps) := by simp only [eqR, c1, c2, c3, c4, c5, c6, Bool.true_and]
  rw [e0]
  have stepP : ∀ (j : Nat) (p q : Po), a.ps[j]? = some p → b.ps[j]? = some q → exec (zenv X N) N false fn47L1 ⟨[.any, .any, .c (.ptr 0 0 0), .c (.ptr 1 0 0), .any, i64 (j : Int), .any, .any, .any, .any, .any, .any], [.cells a.cs 0 false, .cells b.cs 0 false]⟩ = some (if eqP p q then (.nrm, ⟨[.any, .any, .c (.ptr 0 0 0), .c (.ptr 1 0 0), .any, i64 ((j + 1 : Nat) : Int), .any, .any, bl true, bl false, .any, .any], [.cells a.cs 0 false, .cells b.cs 0 false]⟩) else (.ret, ⟨[.any, .any, .c (.ptr 0 0 0), .c (.ptr 1 0 0), i64 0, i64 (j : Int), .any, .any, bl true, bl true, .any, .any], [.cells a.cs 0 false, .cells b.cs 0 false]⟩)) := by
    intro j p q hp0 hq0
    have hj := (List.getElem?_eq_some_iff.1 hp0).1
    have okp := ha.ps _ (List.mem_of_getElem? hp0)
    have okq := hb.ps _ (List.mem_of_getElem? hq0)
    obtain ⟨t, h1⟩ := ha.p.at (sz := 18) (fun x hx => Po.len (ha.ps x hx)) (by omega) hp0
    obtain ⟨t', h2⟩ := hb.p.at (sz := 18) (fun x hx => Po.len (hb.ps x hx)) (by omega) hq0
    have h4 : (j : Int) < (a.ps.length : Int) := by omega
    have h5 := wrap_succ (k := j) (by omega)
    have l9 : (oC p.id).length = 17 := oC_len okp.i
    have l9' : (oC q.id).length = 17 := oC_len okq.i
    have n9 : (oD p.id).length = 17 := oD_len okp.i
    have n9' : (oD q.id).length = 17 := oD_len okq.i
    have vi := eqO okp.i okq.i
    have v26 := hX.vc (k := 26) (F := fn26) rfl (f26 hX (N := N) (u := p.qs) (v := q.qs) (by have := (hs.qs p (List.mem_of_getElem? hp0)).1; omega) okp.s okq.s okp.q okq.q (by have := (hs.qs p (List.mem_of_getElem? hp0)).1; omega) (hs.qs p (List.mem_of_getElem? hp0)).2)
    have x0 : 0 < (p.ds ++ t).length := by rw [List.length_append, Po.len okp]; omega
    have x0' : 0 < (q.ds ++ t').length := by rw [List.length_append, Po.len okq]; omega
    have x1 : 17 < (p.ds ++ t).length := by rw [List.length_append, Po.len okp]; omega
    have x1' : 17 < (q.ds ++ t').length := by rw [List.length_append, Po.len okq]; omega
    have y0 : List.map C.d (List.take 17 (p.ds ++ t)) = oC p.id := by rw [Po.ds, List.append_assoc, ← n9, List.take_left]; rfl
    have y0' : List.map C.d (List.take 17 (q.ds ++ t')) = oC q.id := by rw [Po.ds, List.append_assoc, ← n9', List.take_left]; rfl
    have y1 : List.map C.d (List.take 1 (List.drop 17 (p.ds ++ t))) = [.d p.w] := by rw [Po.ds, List.append_assoc, ← n9, List.drop_left]; rfl
    have y1' : List.map C.d (List.take 1 (List.drop 17 (q.ds ++ t'))) = [.d q.w] := by rw [Po.ds, List.append_assoc, ← n9', List.drop_left]; rfl
    generalize p.ds ++ t = pa at *
    generalize q.ds ++ t' = qa at *
    cases z1 : decide (p.id = q.id)
    case false =>
      have ze : eqP p q = false := by simp only [eqP, z1, Bool.false_and]
      simp only [fn47L1, ze, z1, h1, h2, h4, x0, x0', y0, y0', l9, l9', vi, hp, b1, Bool.not_false, List.take, List.drop, ↓sp_len, ↓sp_ixa, evs]
    have ze : eqP p q = all2 eqQ p.qs q.qs := by simp only [eqP, z1, Bool.true_and]
    rw [ze]
    cases z2 : all2 eqQ p.qs q.qs <;> rw [z2] at v26 <;> simp only [fn47L1, z1, h1, h2, h4, h5, x0, x0', x1, x1', y0, y0', y1, y1', l9, l9', vi, v26, hp, b1, Bool.not_true, Bool.not_false, List.take, List.drop, ↓sp_len, ↓sp_ixa, evs]
  have stepM : ∀ (j : Nat) (p q : Mp), a.ms[j]? = some p → b.ms[j]? = some q → exec (zenv X N) N false fn47L0 ⟨[.any, .any, .c (.ptr 0 0 0), .c (.ptr 1 0 0), .any, .any, i64 (j : Int), .any, .any, .any, .any, .any], [.cells a.cs 0 false, .cells b.cs 0 false]⟩ = some (if eqM p q then (.nrm, ⟨[.any, .any, .c (.ptr 0 0 0), .c (.ptr 1 0 0), .any, .any, i64 ((j + 1 : Nat) : Int), .any, .any, .any, bl true, bl false], [.cells a.cs 0 false, .cells b.cs 0 false]⟩) else (.ret, ⟨[.any, .any, .c (.ptr 0 0 0), .c (.ptr 1 0 0), i64 0, .any, i64 (j : Int), .any, .any, .any, bl true, bl true], [.cells a.cs 0 false, .cells b.cs 0 false]⟩)) := by
    intro j p q hp0 hq0
    have hj := (List.getElem?_eq_some_iff.1 hp0).1
    have okp := ha.ms _ (List.mem_of_getElem? hp0)
    have okq := hb.ms _ (List.mem_of_getElem? hq0)
    obtain ⟨t, h1⟩ := ha.m.at (sz := 34) (fun x hx => Mp.len (ha.ms x hx)) (by omega) hp0
    obtain ⟨t', h2⟩ := hb.m.at (sz := 34) (fun x hx => Mp.len (hb.ms x hx)) (by omega) hq0
    have h4 : (j : Int) < (a.ms.length : Int) := by omega
    have h5 := wrap_succ (k := j) (by omega)
    have k1 : List.map C.d (List.take 34 (p.ds ++ t)) = p.ds.map C.d := by rw [← Mp.len okp, List.take_left]
    have k2 : List.map C.d (List.take 34 (q.ds ++ t')) = q.ds.map C.d := by rw [← Mp.len okq, List.take_left]
    have l1 : (p.ds.map C.d).length = 34 := by rw [List.length_map, Mp.len okp]
    have l2 : (q.ds.map C.d).length = 34 := by rw [List.length_map, Mp.len okq]
    have vi := eqMd okp okq
    generalize p.ds.map C.d = pa at *
    generalize q.ds.map C.d = qa at *
    cases he : eqM p q <;> rw [he] at vi <;> simp only [fn47L0, h1, h2, h4, h5, k1, k2, l1, l2, vi, hm, b1, Bool.not_true, Bool.not_false, List.take, List.drop, ↓sp_len, ↓sp_ixa, evs]
  have hscP := iter_all2 (e := eqP) (u := a.ps) (v := b.ps) (js := some [2, 3, 5]) (hl := 2) (body := exec (zenv X N) N false fn47L1) (fun i => ⟨[.any, .any, .c (.ptr 0 0 0), .c (.ptr 1 0 0), .any, i64 (i : Int), .any, .any, .any, .any, .any, .any], [.cells a.cs 0 false, .cells b.cs 0 false]⟩) (b := 0) (s1 := ⟨[.any, .any, .c (.ptr 0 0 0), .c (.ptr 1 0 0), .any, i64 (a.ps.length : Int), .any, .any, bl false, .any, .any, .any], [.cells a.cs 0 false, .cells b.cs 0 false]⟩) (Q := fun s => nth s.regs 4 = i64 0) (fuel := N) dq1 (by omega)
    (by
      intro j p q hp0 hq0 he
      have h := stepP j p q hp0 hq0
      rw [he, if_pos rfl] at h
      exact ⟨_, h, gc_le (Nat.le_refl 2)⟩)
    (by simp only [fn47L1, hp, List.take, List.drop, ↓sp_len, evs])
    (by
      intro j p q hp0 hq0 he
      have h := stepP j p q hp0 hq0
      rw [he, if_neg (by simp)] at h
      exact ⟨_, h, rfl⟩)
  have hscM := iter_all2 (e := eqM) (u := a.ms) (v := b.ms) (js := some [2, 3, 6]) (hl := 2) (body := exec (zenv X N) N false fn47L0) (fun i => ⟨[.any, .any, .c (.ptr 0 0 0), .c (.ptr 1 0 0), .any, .any, i64 (i : Int), .any, .any, .any, .any, .any], [.cells a.cs 0 false, .cells b.cs 0 false]⟩) (b := 2) (s1 := ⟨[.any, .any, .c (.ptr 0 0 0), .c (.ptr 1 0 0), .any, .any, i64 (a.ms.length : Int), .any, .any, .any, bl false, .any], [.cells a.cs 0 false, .cells b.cs 0 false]⟩) (Q := fun s => nth s.regs 4 = i64 0) (fuel := N) dq2 (by omega)
    (by
      intro j p q hp0 hq0 he
      have h := stepM j p q hp0 hq0
      rw [he, if_pos rfl] at h
      exact ⟨_, h, gc_le (Nat.le_refl 2)⟩)
    (by simp only [fn47L0, hm, List.take, List.drop, ↓sp_len, evs])
    (by
      intro j p q hp0 hq0 he
      have h := stepM j p q hp0 hq0
      rw [he, if_neg (by simp)] at h
      exact ⟨_, h, rfl⟩)
  simp only [i64, bl, Int.natCast_zero] at hscP hscM
  rcases hscP with ⟨he, hit⟩ | ⟨he, s', hq, hit⟩
  · rw [he, Bool.and_true]
    rcases hscM with ⟨he2, hit2⟩ | ⟨he2, s', hq, hit2⟩
    · rw [he2]
      exact ⟨[.cells a.cs 0 false, .cells b.cs 0 false], (rf_fin _ _ _ _ _ _ _ _ _ (by rfl)).trans (by simp only [hit, hit2, c1, c2, c3, c4, c5, c6, q1, q2, hp, hp', hm, hm', b1, bne, Bool.not_true, List.take, List.drop, ↓sp_len, evs, Nat.reduceAdd, Nat.reduceSub, Nat.reduceBEq])⟩
    · rw [he2]
      obtain ⟨r, H⟩ := s'
      simp only [] at hq
      exact ⟨H, (rf_fin _ _ _ _ _ _ _ _ _ (by rfl)).trans (by simp only [hit, hit2, hq, c1, c2, c3, c4, c5, c6, q1, q2, hp, hp', hm, hm', b1, bne, Bool.not_true, List.take, List.drop, ↓sp_len, evs, Nat.reduceAdd, Nat.reduceSub, Nat.reduceBEq])⟩
  · rw [he, Bool.and_false]
    obtain ⟨r, H⟩ := s'
    simp only [] at hq
    exact ⟨H, (rf_fin _ _ _ _ _ _ _ _ _ (by rfl)).trans (by simp only [hit, hq, c1, c2, c3, c4, c5, c6, q1, q2, hp, hp', hm, hm', b1, bne, Bool.not_true, List.take, List.drop, ↓sp_len, evs, Nat.reduceAdd, Nat.reduceSub, Nat.reduceBEq])⟩
end Mini
end Go.Proofs.YtjnghfhccjogeaaGreatDoor
