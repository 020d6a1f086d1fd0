/-
  JournalsCheck: texts of the proof, part 24.
-/
import Derived.Test.YtgjlofpfbhioaaaGreatDoorNX22
import Derived.Test.YtgjlofpfbhioaaaGreatDoorRows
import Derived.Lib.LaidTab
import Derived.Shelf.Vars
namespace Go.Proofs.YtgjlofpfbhioaaaGreatDoor
namespace Mini
open Go
theorem laidVars_mem {P : Program} {W : World} {n : String} {d : DataW Unit} : ∀ {laid : List (String × DataW Unit)} {ps : List MemPlace}, DataW.LaidVars P W laid ps → (n, d) ∈ laid →
    ∃ g t cs fuel p, P.globalNamed n = some g ∧ (P.globals[g]?).map (·.type) = some t ∧ W.var? P n = some cs ∧ DataW.trod (fun _ => ()) P W 0 (fun _ => true) false fuel t cs.toList = some (d, p)
  | (n', d') :: laid, ps, h, hm => by
    obtain ⟨g, t, cs, fuel, p, q, h1, h2, h3, h4, h5, _⟩ := h
    rcases List.mem_cons.1 hm with he | hm
    · cases he
      exact ⟨g, t, cs, fuel, p, h1, h2, h3, h4⟩
    · exact laidVars_mem h5 hm
theorem var_block {P : Program} {W : World} {n : String} {g : Nat} {cs : Array Value} (hg : P.globalNamed n = some g) (h : W.var? P n = some cs) : ∃ T fr, W.heap[g]? = some (.cells cs T fr) := by
  unfold World.var? at h
  rw [hg] at h
  simp only [Option.bind_some] at h
  split at h
  · rename_i cs' T fr hb
    cases h
    exact ⟨T, fr, hb⟩
  · cases h
def Globs (m : Int) (W : World) : Prop := GlobOk (glob0 m) (imW W)
theorem g2n : Tryz.prog.globalNamed "internal/strconv.uint64pow10" = some 2 := by kernel_rfl
theorem g6n : Tryz.prog.globalNamed "strconv.ErrRange" = some 6 := by kernel_rfl
theorem g2t : (Tryz.prog.globals[2]?).map (·.type) = some 208 := by kernel_rfl
theorem g6t : (Tryz.prog.globals[6]?).map (·.type) = some 110 := by kernel_rfl
theorem iface_cells {P : Program} {H : Type} {enc : TypeId × Value → H} {w : World} {base : Nat} {sp : Nat → Bool} {fuel : Nat} {t : TypeId} {ms : Array (String × TypeId)} {cs : List Value} {s : String} {d : DataW H} {p : List MemPlace} (ht : P.underlying t = some (.interface ms)) (h : DataW.trod enc P w base sp false fuel t cs = some (.iface s d, p)) : ∃ u v, cs = [.iface u v] := by
  cases fuel with
  | zero => simp [DataW.trod] at h
  | succ n =>
    unfold DataW.trod at h
    rw [ht] at h
    split at h <;> simp_all
theorem globs_of {W : World} {laid : List (String × DataW Unit)} (hL : laidMet Tryz.prog laid W) (hS : W.ShapedOpen Tryz.prog)
    (m2 : ("internal/strconv.uint64pow10", Rows.laid_internal_strconv_uint64pow10) ∈ laid) (m6 : ("strconv.ErrRange", Rows.laid_strconv_ErrRange) ∈ laid) : ∃ m, Globs m W := by
  obtain ⟨ps, hv, _⟩ := hL
  obtain ⟨m, hm⟩ := cell_of_shapedOpen_int (zero := #[.int .i64 0]) (t := 3) (g := 1) (k := .i64) hS (of_decide_eq_true (by kernel_rfl)) (by kernel_rfl) rfl (by kernel_rfl) (by kernel_rfl) Tryz.underlying3
  have hsz : ∃ cs T fr, W.heap[1]? = some (.cells cs T fr) ∧ cs.size = 1 := by
    obtain ⟨cs, h1, h2, _⟩ := hS.1 1 #[.int .i64 0] 3 (of_decide_eq_true (by kernel_rfl)) (by kernel_rfl)
    exact ⟨cs, _, _, h1, h2⟩
  obtain ⟨cs1, T1, fr1, hb1, hz1⟩ := hsz
  obtain ⟨g2, t2, cs2, fu2, p2, e2, k2, l2, n2⟩ := laidVars_mem hv m2
  obtain ⟨g6, t6, cs6, fu6, p6, e6, k6, l6, n6⟩ := laidVars_mem hv m6
  obtain rfl := Option.some.inj (g2n.symm.trans e2)
  obtain rfl := Option.some.inj (g6n.symm.trans e6)
  obtain rfl := Option.some.inj (g2t.symm.trans k2)
  obtain rfl := Option.some.inj (g6t.symm.trans k6)
  obtain ⟨T2, fr2, hb2⟩ := var_block e2 l2
  obtain ⟨T6, fr6, hb6⟩ := var_block e6 l6
  obtain ⟨u6, v6, hc6⟩ := iface_cells Tryz.underlying110 n6
  have hc2 := Lib.cells_of_tab (zs := Lib.pow10Tab) (k := .u64) Tryz.underlying208 Tryz.underlying140 (by kernel_rfl) (by kernel_rfl) n2
  have hc1 : cs1.toList = [.int .i64 m] := by
    simp only [World.cell?, hb1] at hm
    have : cs1[0]? = some (.int .i64 m) := by simpa using hm
    apply List.ext_getElem?
    intro i
    cases i with
    | zero => simpa using this
    | succ i => rw [List.getElem?_eq_none (by simp; omega)]; rfl
  refine ⟨m, fun b cs hb => ?_⟩
  match b, hb with
  | 0, hb => cases hb
  | 1, hb =>
    obtain rfl := Option.some.inj hb
    refine ⟨?_, cs1, T1, fr1, hb1, by rw [hz1]; rfl⟩
    simp only [RelD]
    refine ⟨1, 0, cs1, T1, fr1, rfl, hb1, ?_⟩
    rw [hc1]
    simp only [RelDs, RelD, List.drop_zero]
    exact ⟨trivial, trivial⟩
  | 2, hb =>
    obtain rfl := Option.some.inj hb
    refine ⟨?_, cs2, T2, fr2, hb2, by rw [← Array.length_toList, hc2]; simp [pow10D]⟩
    simp only [RelD]
    refine ⟨2, 0, cs2, T2, fr2, rfl, hb2, ?_⟩
    rw [hc2, List.drop_zero, RelDs.iff]
    intro j d hd
    rw [pow10D, List.getElem?_map] at hd
    obtain ⟨z, hz, rfl⟩ := Option.map_eq_some_iff.1 hd
    exact ⟨_, by rw [List.getElem?_map, hz]; rfl, by simp only [RelD]⟩
  | 6, hb =>
    obtain rfl := Option.some.inj hb
    refine ⟨?_, cs6, T6, fr6, hb6, by rw [← Array.length_toList, hc6]; rfl⟩
    simp only [RelD]
    refine ⟨6, 0, cs6, T6, fr6, rfl, hb6, ?_⟩
    rw [hc6]
    simp only [RelDs, RelD, List.drop_zero]
    exact ⟨⟨u6, v6, rfl⟩, trivial⟩
  | 3, hb => cases hb
  | 4, hb => cases hb
  | 5, hb => cases hb
  | n + 7, hb => cases hb
end Mini
end Go.Proofs.YtgjlofpfbhioaaaGreatDoor
