/-
  JournalsCheck: texts of the proof, part 22.
-/
import Derived.Test.YtgjlofpfbhioaaaGreatDoorNX20
namespace Go.Proofs.YtgjlofpfbhioaaaGreatDoor
namespace Mini
open Go
variable {m : Int} {X : Ctx}
theorem f36r (hX : XOj m X) {N : Nat} {e : En} (hN : 100000 ≤ N) (hp : pJ [] = ([], 0, 0, 0)) (hw : isSet e.w e.l) (hwl : wfS e.l) (hel : e.l.length < 1000000) (hes : e.s.length ≤ 100) (hc : e.chk ≠ 0) : vcallN X N 36 [strV [], .agg (e.ds.map .d)] = some (.tup [strV [], i64 (e.chk : Int)]) := by
  obtain ⟨N, rfl⟩ : ∃ M, N = M + 1 := ⟨N - 1, by omega⟩
  have hF : fnsX 36 = some fn36' := rfl
  have h71 := v71 hX (N := N) (j := []) (by simp only [List.length_nil]; omega) (by simp) (fun c hc => by cases hc)
  rw [hp] at h71
  have h48 := hX.vc (k := 48) (F := fn48) rfl (f48 hX (N := N) (s := e.s) (acc := e.acc) (r := e.r) (t := e.t) (w := e.w) (l := e.l) (by omega) (by omega) hw hwl hel)
  have hce : chkE e.s e.acc e.r e.t e.l = e.chk := rfl
  rw [hce] at h48
  have g0 : ((0 : Int) != 0) = false := rfl
  have g1 : ((e.chk : Int) != 0) = true := by rw [bne_iff_ne]; omega
  have z1 : ¬ ((0 : Int) > 1048576) := by decide
  simp only [strV, i64, enC, Int.natCast_zero, List.flatMap_nil, List.length_nil] at h71 h48
  simp only [En.ds, List.map_cons, List.map_nil]
  generalize e.chk = ch at *
  refine vcall_of (r := .tup [strV [], i64 (ch : Int)]) (H := [.cells [.d (.str e.s), .d (.bool e.acc), .d (.int .u8 (e.r : Int)), .d (.int .i64 e.t), .d e.w] 0 false]) ?_ rfl
  rw [hX.fn hF]
  refine (rf_fin _ _ _ _ _ _ _ _ _ (by rfl)).trans ?_
  simp only [ob?, strV, h71, h48, z1, g0, g1, Int.natCast_zero, List.take, List.drop, List.map_cons, List.map_nil, freeze_nil, reachV, reachC, ite_self, List.flatMap_cons, List.flatMap_nil, evs, Nat.reduceAdd, Nat.reduceSub]
theorem argE_one {e : En} (hw : wfE e) (h1 : e.s.length ≤ 1000) (h2 : e.l.length ≤ 1000) : ArgE [.cells (e.ds.map .d) 0 false, .cells (e.ds.map .d) 0 false] (.c (.os 1 0 0 1 5 (some 1))) [e] where
  len := rfl
  at' := fun i hi => by
    have : i = 0 := by simpa using hi
    subst this
    exact ⟨.c (.ptr 1 0 0), rfl, fun t => rfl⟩
  und := fun k hk => by
    rw [under_c, C.under]
    exact decide_eq_true (by simp only [List.length_cons, List.length_nil] at hk; omega)
  hp := Hp.cons rfl (Hp.cons rfl Hp.nil)
  wf := fun x hx => by rw [List.mem_singleton.1 hx]; exact hw
  sm := fun x hx => by rw [List.mem_singleton.1 hx]; exact ⟨h1, h2⟩
theorem deep_ds {H : Heap} {id : Nat} {e : En} (hH : H[id]? = some (.cells (e.ds.map .d) 0 false)) : deepC H deepMax (.os id 0 0 1 5 (some 1)) = some (.sl e.ds 1) := by
  have hH' : H[id]? = some (.cells (eC [e]) 0 false) := by rw [hH, eC, List.flatMap_cons, List.flatMap_nil, List.append_nil]
  have := deep_en (c := some 1) hH' (n := 1) rfl
  rw [List.flatMap_cons, List.flatMap_nil, List.append_nil] at this
  exact this
theorem kept_one (e : En) : keptJ [e] 1 1 = [newE e] := by
  simp [keptJ, atP, setP, lookP]
theorem f13 (hX : XOr m X) {N : Nat} (hN : 200000 ≤ N) {e : En} (hw : isSet e.w e.l) (hwl : wfS e.l) : vcallN X N 13 [.agg (e.ds.map .d)] = some (bl true) := by
  obtain ⟨N, rfl⟩ : ∃ M, N = M + 1 := ⟨N - 1, by omega⟩
  have hlv := f40 hX.j (N := N) (by omega)
  have hlw := hw.len
  suffices h : ∃ H, callN X (N + 1) (.d (.fn 13 [] [])) [.agg (e.ds.map .d)] [] = some (bl true, H) by
    obtain ⟨H, h⟩ := h
    exact vcall_of h rfl
  rw [hX.fn (F := fn13') rfl]
  by_cases c0 : e.l.length > 20 ∨ e.s.length > 100
  · refine ⟨[.cells (e.ds.map .d) 0 false], (rf_fin _ _ _ _ _ _ _ _ _ (by rfl)).trans ?_⟩
    simp only [En.ds, List.map_cons, List.map_nil] at *
    by_cases c1 : e.l.length > 20
    · have g1 : ((e.l.length : Int) > 20) := by omega
      simp only [bl] at hlw ⊢
      simp only [hlv, hlw, g1, List.take, List.drop, ↓sp_len, evs, Nat.reduceSub]
    · have g1 : ¬ ((e.l.length : Int) > 20) := by omega
      have g2 : ((e.s.length : Int) > 100) := by omega
      simp only [bl] at hlw ⊢
      simp only [hlv, hlw, g1, g2, List.take, List.drop, ↓sp_len, evs, Nat.reduceSub]
  have hel : e.l.length < 1000000 := by omega
  have g1 : ¬ ((e.l.length : Int) > 20) := by omega
  have g2 : ¬ ((e.s.length : Int) > 100) := by omega
  have hce : chkE e.s e.acc e.r e.t e.l = e.chk := rfl
  have h48 := hX.j.vc (k := 48) (F := fn48) rfl (f48 hX.j (N := N) (s := e.s) (acc := e.acc) (r := e.r) (t := e.t) (w := e.w) (l := e.l) (by omega) (by omega) hw hwl hel)
  have h45 := hX.j.vc (k := 45) (F := fn45) rfl (f45 hX.j (N := N) (s := e.s) (acc := e.acc) (r := e.r) (t := e.t) (w := e.w) (l := e.l) (by omega) (by omega) hw hwl hel)
  rw [hce] at h48 h45
  have hp : pJ [] = ([], 0, 0, 0) := rfl
  have hA := argE_one (e := e) ⟨hw, hwl⟩ (by omega) (by omega)
  have gcc : ((e.chk : Int) != (e.chk : Int)) = false := by rw [bne_eq_false_iff_eq]
  have sB : ∀ a b c d e : C, splice [.d (.str []), .d (.bool false), .d (.int .u8 0), .d (.int .i64 0), .d .nils] 0 [a, b, c, d, e] = [a, b, c, d, e] := fun _ _ _ _ _ => rfl
  by_cases cc : e.chk = 0
  · have h36 := hX.j.vc (k := 36) (F := fn36) rfl (f36 hX.j (N := N) (j := []) (e := e) (la := 0) (l := []) (by simp only [List.length_nil]; omega) (by simp) (fun c hc => by cases hc) hp (by simp) (by omega) hw hwl hel (by omega) cc (by have := line_len cc 0; rw [List.nil_append]; omega))
    obtain ⟨g, o, p1, p2, h47⟩ := c47 hX (N := N) (by omega) hA (by simp) (by simp) (fun j hj => by
      have : j = 0 := by simpa using hj
      subst this
      exact cc)
    have hg : g = [newE e] := by
      rw [show ([e] : List En).length = 1 from rfl, kept_one] at p1
      exact List.perm_singleton.1 p1
    subst hg
    have h38 := hX.j.vc (k := 38) (F := fn38) rfl (f38 hX.j (N := N) (by omega) (w := .sl ([e].flatMap En.ds) [e].length) (l := [e]) (.inr rfl) (fun x hx => by rw [List.mem_singleton.1 hx]; exact ⟨hw, hwl⟩) (fun x hx => by rw [List.mem_singleton.1 hx]; exact cc) (by simp))
    have h39 := hX.j.vc (k := 39) (F := fn39) rfl (f39 hX.j (N := N) (u := [newE e]) (v := [e]) (w := .sl ([newE e].flatMap En.ds) 1) (w' := .sl ([e].flatMap En.ds) 1) (by simp only [List.length_singleton]; omega) (.inr rfl) (.inr rfl) (fun x hx => by rw [List.mem_singleton.1 hx]; exact ⟨exD_is _, hwl⟩) (fun x hx => by rw [List.mem_singleton.1 hx]; exact ⟨hw, hwl⟩) (by simp) (fun x hx => by rw [List.mem_singleton.1 hx]; show e.l.length ≤ 300; omega))
    rw [if_pos ((alike_1 (newE e) e).2 ⟨rfl, rfl, rfl, rfl, rfl⟩)] at h39
    have htx : textJ 0 [e] = lineE 0 e := by simp [textJ]
    rw [htx] at h38
    have ee : (lineE 0 e == lineE 0 e) = true := beq_self_eq_true _
    have heC : eC [newE e] = (newE e).ds.map .d := by simp [eC]
    rw [heC] at h47
    simp only [List.flatMap_cons, List.flatMap_nil, List.append_nil, List.length_cons, List.length_nil, List.nil_append, Nat.zero_add, strV, i64, cc, Int.natCast_zero, enC] at h36 h38 h39 h47 h48 h45 hlw
    have d1 : ∀ {H : Heap} {id : Nat}, H[id]? = some (.cells (e.ds.map .d) 0 false) → deepC H deepMax (.os id 0 0 1 5 (some 1)) = some (.sl e.ds 1) := fun h => deep_ds h
    have d2 : ∀ {H : Heap} {id : Nat}, H[id]? = some (.cells ((newE e).ds.map .d) 0 false) → deepC H deepMax (.os id 0 0 1 5 (some 1)) = some (.sl (newE e).ds 1) := fun h => deep_ds h
    refine ⟨[.cells (e.ds.map .d) 0 false, .cells (e.ds.map .d) 0 false, o, .cells ((newE e).ds.map .d) 0 false, .cells (e.ds.map .d) 0 false, .cells (e.ds.map .d) 0 false], (rf_fin _ _ _ _ _ _ _ _ _ (by rfl)).trans ?_⟩
    generalize lineE 0 e = ln at *
    obtain ⟨s, acc, r, t, w, ol⟩ := e
    simp only [En.ds, newE, List.map_cons, List.map_nil] at *
    have g00 : ((0 : Int) != 0) = false := rfl
    have e11 : ((1 : Int) == 1) = true := rfl
    simp only [bl]
    simp only [hlv, hlw, g1, g2, h36, h38, h39, h47, h48, h45, d1, d2, sB, ee, g00, e11, binStr, lay, rep, Nat.le_refl, List.take, List.drop, List.map_cons, List.map_nil, freeze_nil, reachV, reachC, ite_self, List.flatMap_cons, List.flatMap_nil, ↓sp_len, evs, Nat.reduceAdd, Nat.reduceSub]
  · have h36 := hX.j.vc (k := 36) (F := fn36) rfl (f36r hX.j (N := N) (e := e) (by omega) hp hw hwl hel (by omega) cc)
    obtain ⟨t, h47⟩ := c47e hX (N := N) (by omega) hA (by simp) (k := 0) (by simp) cc (fun j hj => by omega)
    have hg0 : ([e] : List En).getD 0 e0 = e := rfl
    rw [hg0] at h47
    have gz : ((e.chk : Int) != 0) = true := by rw [bne_iff_ne]; omega
    refine ⟨[.cells (e.ds.map .d) 0 false, .cells (e.ds.map .d) 0 false] ++ t, (rf_fin _ _ _ _ _ _ _ _ _ (by rfl)).trans ?_⟩
    simp only [strV, i64, enC] at h36 h47 h48 h45 hlw
    generalize e.chk = ch at *
    obtain ⟨s, acc, r, t', w, ol⟩ := e
    simp only [En.ds, List.map_cons, List.map_nil] at *
    have b1 : (([] : List Nat) == []) = true := rfl
    have b2 : ((0 : Int) == 0) = true := rfl
    simp only [bl]
    simp only [hlv, hlw, g1, g2, h36, h47, h48, h45, sB, gcc, gz, b1, b2, binStr, lay, rep, Nat.le_refl, List.take, List.drop, List.map_cons, List.map_nil, freeze_nil, reachV, reachC, ite_self, List.flatMap_cons, List.flatMap_nil, ↓sp_len, evs, Nat.reduceAdd, Nat.reduceSub]
end Mini
end Go.Proofs.YtgjlofpfbhioaaaGreatDoor
