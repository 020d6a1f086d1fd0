/-
  Parameters and variables opened; what a call owes its row; a world for the witnesses.
-/
import Derived.Test.YtgjlofpfbhioaaaGreatDoorMiniJW
import Derived.ProofKit
import Derived.OpenShut
import Derived.Deep.Slices
import Derived.Carry
import Derived.Test.YtgjlofpfbhioaaaGreatDoorRows
import Derived.Lib.LaidTab
import Derived.Shelf.Vars
import Derived.WalkKit
import Derived.Test.YtgjlofpfbhioaaaGreatDoorCards
import Derived.Test.YtgjlofpfbhioaaaGreatDoorTie
import Derived.Deep.DeepHandedRow
import Derived.Test.YtgjlofpfbhioaaaGreatDoorMiniJV
namespace Go.Proofs.YtgjlofpfbhioaaaGreatDoor
namespace Mini
open Go Go.ChangeShapes Go.WideShapes Go.ChangeAt Go.RowKit Go.Deep
/-- All that is there when the call begins. -/
def imW (W : World) : Imm := fun B => W.heap[B]?
theorem relDs_append {I : Imm} : ∀ {xs ys : List D} {vs : List Value}, RelDs I xs vs → RelDs I ys (vs.drop xs.length) → RelDs I (xs ++ ys) vs
  | [], _, _, _, h => by simpa using h
  | x :: xs, ys, [], h, _ => by simp only [RelDs] at h
  | x :: xs, ys, v :: vs, h, k => by
    simp only [RelDs, List.cons_append] at h ⊢
    exact ⟨h.1, relDs_append h.2 (by simpa using k)⟩
theorem relDs_flat {I : Imm} {α : Type} {Q : α → List D} {sz : Nat} {vs : List Value} : ∀ {l : List α} {o : Nat}, (∀ a ∈ l, (Q a).length = sz) → (∀ i a, l[i]? = some a → RelDs I (Q a) (vs.drop (o + i * sz))) → RelDs I (l.flatMap Q) (vs.drop o)
  | [], _, _, _ => RelDs.nil _ _
  | a :: l, o, hl, h => by
    rw [List.flatMap_cons]
    have h0 := h 0 a rfl
    simp only [Nat.zero_mul, Nat.add_zero] at h0
    refine relDs_append h0 ?_
    rw [hl a List.mem_cons_self, List.drop_drop]
    refine relDs_flat (fun x hx => hl x (List.mem_cons_of_mem _ hx)) fun i x hx => ?_
    have := h (i + 1) x (by simpa using hx)
    rwa [Nat.succ_mul, ← Nat.add_assoc, Nat.add_right_comm] at this
section
variable {H : Type} {enc : TypeId × Value → H} {P : Program} {W : World} {base : Nat} {sp : Nat → Bool} {held : Bool}
theorem cells_rel {a : Addr} {n : Nat} {cs : List Value} (h : W.cells? base a n = some cs) (hn : 0 < n) : ∃ arr T fr, a = ⟨a.block, a.off, none⟩ ∧ W.heap[a.block]? = some (.cells arr T fr) ∧ ∀ i, i < n → arr.toList[a.off + i]? = cs[i]? := by
  obtain ⟨hb, hl, hc⟩ := World.cells?_some h
  obtain ⟨b, o, spot⟩ := a
  have h0 := hc 0 hn
  rw [List.getElem?_eq_getElem (by omega)] at h0
  have hspot : spot = none := by simpa [Addr.add] using World.cell?_spot h0
  subst hspot
  have hadd : ∀ i, (⟨b, o, none⟩ : Addr).add i = ⟨b, o + i, none⟩ := fun i => by
    unfold Addr.add
    split
    · rename_i h; subst h; rfl
    · rfl
  cases ho : W.heap[b]? with
  | none => rw [hadd] at h0; simp [World.cell?, ho] at h0
  | some ob =>
    cases ob with
    | cells arr T fr =>
      refine ⟨arr, T, fr, rfl, rfl, fun i hi => ?_⟩
      have := hc i hi
      rw [hadd] at this
      simp [World.cell?, ho] at this
      simpa using this
    | _ => rw [hadd] at h0; simp [World.cell?, ho] at h0
/-- A slice whose elements are opened by 'he'. -/
theorem open_sl {t e : TypeId} {sz fuel : Nat} {cs : List Value} {x : DataW H × List MemPlace} {α : Type} {Q : α → List D} {R : α → Prop} (ht : P.underlying t = some (.slice e)) (hsz : P.cellsOf e = sz) (hpos : 0 < sz)
    (h : DataW.trod enc P W base sp held fuel t cs = some x)
    (he : ∀ n cs' y, DataW.trod enc P W base sp held n e cs' = some y → ∃ a, RelDs (imW W) (Q a) cs' ∧ (Q a).length = sz ∧ R a) :
    cs = [.slice none 0 0] ∨ ∃ (v : Value) (l : List α), cs = [v] ∧ (∀ a ∈ l, (Q a).length = sz ∧ R a) ∧ RelD (imW W) (.sl (l.flatMap Q) l.length) v := by
  rcases open_slice ht h with ⟨h0, _⟩ | ⟨a, len, cap, m, n, _, _, rfl, hb, hlc, hm, hmm, _, hx⟩
  · exact .inl h0
  right
  have hlm : len ≤ m := by rw [hmm]; split <;> omega
  rw [hsz] at hx
  have hel : ∀ i, i < len → ∃ (a' : α) (cs' : List Value), W.cells? base (a.add (i * sz)) sz = some cs' ∧ RelDs (imW W) (Q a') cs' ∧ (Q a').length = sz ∧ R a' := fun i hi => by
    obtain ⟨cs', h1, h2⟩ := hx i (by omega)
    obtain ⟨a', h3, h4, h5⟩ := he _ _ _ h2
    exact ⟨a', cs', h1, h3, h4, h5⟩
  rcases Nat.eq_zero_or_pos len with rfl | hlen
  · exact ⟨_, [], rfl, (fun _ h => by cases h), (by simp only [RelD]; exact ⟨_, _, rfl, Nat.zero_le _, .inl rfl⟩)⟩
  have hx0 := hel 0 hlen
  obtain ⟨a0, cs0, h1, _⟩ := hx0
  rw [Nat.zero_mul] at h1
  have ha0 : a.add 0 = a := rfl
  rw [ha0] at h1
  obtain ⟨arr, T, fr, hpl, hblk, _⟩ := cells_rel h1 hpos
  have hch : ∃ l : List α, l.length = len ∧ ∀ i a', l[i]? = some a' → ∃ cs', W.cells? base (a.add (i * sz)) sz = some cs' ∧ RelDs (imW W) (Q a') cs' ∧ (Q a').length = sz ∧ R a' := by
    have : ∀ k, k ≤ len → ∃ l : List α, l.length = k ∧ ∀ i a', l[i]? = some a' → ∃ cs', W.cells? base (a.add (i * sz)) sz = some cs' ∧ RelDs (imW W) (Q a') cs' ∧ (Q a').length = sz ∧ R a' := by
      intro k
      induction k with
      | zero => exact fun _ => ⟨[], rfl, fun i a' h => by simp at h⟩
      | succ k ih =>
        intro hk
        obtain ⟨l, hl, hi⟩ := ih (by omega)
        obtain ⟨a', ha'⟩ := hel k (by omega)
        refine ⟨l ++ [a'], by simp [hl], fun i x hx => ?_⟩
        rcases Nat.lt_or_ge i l.length with hlt | hge
        · rw [List.getElem?_append_left hlt] at hx
          exact hi i x hx
        · rw [List.getElem?_append_right hge] at hx
          have : i = k := by
            rcases Nat.eq_zero_or_pos (i - l.length) with h0 | h0
            · omega
            · rw [List.getElem?_eq_none (by simp; omega)] at hx; cases hx
          subst this
          rw [hl, Nat.sub_self] at hx
          simp at hx
          subst hx
          exact ha'
    exact this len (Nat.le_refl _)
  obtain ⟨l, hl, hi⟩ := hch
  have hmem : ∀ x ∈ l, (Q x).length = sz ∧ R x := fun x hx => by
    obtain ⟨i, hlt, rfl⟩ := List.getElem_of_mem hx
    obtain ⟨_, _, _, h4, h5⟩ := hi i _ (List.getElem?_eq_getElem hlt)
    exact ⟨h4, h5⟩
  refine ⟨_, l, rfl, hmem, ?_⟩
  simp only [RelD]
  refine ⟨_, _, by rw [hl], by rw [hl]; exact hlc, .inr ⟨a.block, a.off, arr, T, fr, by rw [← hpl], hblk, ?_⟩⟩
  refine relDs_flat (fun x hx => (hmem x hx).1) fun i x hx => ?_
  obtain ⟨cs', h1, h2, h3, _⟩ := hi i x hx
  obtain ⟨arr', T', fr', hpl', hblk', hc'⟩ := cells_rel h1 hpos
  have hb' : (a.add (i * sz)).block = a.block := by unfold Addr.add; split <;> rfl
  have ho' : (a.add (i * sz)).off = a.off + i * sz := by
    unfold Addr.add
    split
    · omega
    · rfl
  rw [hb', hblk] at hblk'
  cases hblk'
  rw [ho'] at hc'
  rw [RelDs.iff] at h2 ⊢
  intro j d hd
  obtain ⟨v, hv, hr⟩ := h2 j d hd
  refine ⟨v, ?_, hr⟩
  have hj : j < sz := by
    rw [← h3]; exact (List.getElem?_eq_some_iff.1 hd).1
  rw [List.getElem?_drop, hc' j hj]
  exact hv
end
end Mini
end Go.Proofs.YtgjlofpfbhioaaaGreatDoor
namespace Go.Proofs.YtgjlofpfbhioaaaGreatDoor
namespace Mini
open Go
theorem laidVars_mem {P : Program} {W : World} {n : String} {d : DataW Unit} : ∀ {laid : List (String × DataW Unit)} {ps : List MemPlace}, DataW.LaidVars P W laid ps → (n, d) ∈ laid →
    ∃ g t cs fuel p, P.globalNamed n = some g ∧ (P.globals[g]?).map (·.type) = some t ∧ W.var? P n = some cs ∧ DataW.trod (fun _ => ()) P W 0 (fun _ => true) false fuel t cs.toList = some (d, p)
  | (n', d') :: laid, ps, h, hm => by
    obtain ⟨g, t, cs, fuel, p, q, h1, h2, h3, h4, h5, _⟩ := h
    rcases List.mem_cons.1 hm with he | hm
    · cases he
      exact ⟨g, t, cs, fuel, p, h1, h2, h3, h4⟩
    · exact laidVars_mem h5 hm
theorem var_block {P : Program} {W : World} {n : String} {g : Nat} {cs : Array Value} (hg : P.globalNamed n = some g) (h : W.var? P n = some cs) : ∃ T fr, W.heap[g]? = some (.cells cs T fr) := by
  unfold World.var? at h
  rw [hg] at h
  simp only [Option.bind_some] at h
  split at h
  · rename_i cs' T fr hb
    cases h
    exact ⟨T, fr, hb⟩
  · cases h
/-- The variables hold what the first context says. -/
def Globs (m : Int) (W : World) : Prop := GlobOk (glob0 m) (imW W)
theorem g0n : Tryz.prog.globalNamed "vidimus/anchors.words" = some 0 := by kernel_rfl
theorem g2n : Tryz.prog.globalNamed "internal/strconv.uint64pow10" = some 2 := by kernel_rfl
theorem g6n : Tryz.prog.globalNamed "strconv.ErrRange" = some 6 := by kernel_rfl
theorem g0t : (Tryz.prog.globals[0]?).map (·.type) = some 114 := by kernel_rfl
theorem g2t : (Tryz.prog.globals[2]?).map (·.type) = some 208 := by kernel_rfl
theorem g6t : (Tryz.prog.globals[6]?).map (·.type) = some 110 := by kernel_rfl
theorem iface_cells {P : Program} {H : Type} {enc : TypeId × Value → H} {w : World} {base : Nat} {sp : Nat → Bool} {fuel : Nat} {t : TypeId} {ms : Array (String × TypeId)} {cs : List Value} {s : String} {d : DataW H} {p : List MemPlace} (ht : P.underlying t = some (.interface ms)) (h : DataW.trod enc P w base sp false fuel t cs = some (.iface s d, p)) : ∃ u v, cs = [.iface u v] := by
  cases fuel with
  | zero => simp [DataW.trod] at h
  | succ n =>
    unfold DataW.trod at h
    rw [ht] at h
    split at h <;> simp_all
theorem list_three {α : Type} : ∀ {l : List α}, l.length = 3 → ∃ a b c, l = [a, b, c]
  | [a, b, c], _ => ⟨a, b, c, rfl⟩
theorem words_cells {H : Type} {enc : TypeId × Value → H} {w : World} {base : Nat} {sp : Nat → Bool} {held : Bool} {fuel : Nat} {cs : List Value} {b0 b1 b2 : List UInt8} {p : List MemPlace} (h : DataW.trod enc Tryz.prog w base sp held fuel 114 cs = some (.agg [.lit (.string b0), .lit (.string b1), .lit (.string b2)], p)) :
    ∃ s0 s1 s2 : ByteArray, cs = [.string s0, .string s1, .string s2] ∧ s0.data.toList = b0 ∧ s1.data.toList = b1 ∧ s2.data.toList = b2 := by
  obtain ⟨xs, n, rfl, hx, hl, hn, hi⟩ := DataW.trod_array Tryz.underlying114 h
  have c114 : Tryz.prog.cellsOf 114 = 3 := by kernel_rfl
  have c9 : Tryz.prog.cellsOf 9 = 1 := by kernel_rfl
  rw [c114] at hl
  rw [c9] at hi
  obtain ⟨v0, v1, v2, rfl⟩ := list_three hl
  obtain ⟨x0, x1, x2, rfl⟩ := list_three hn
  · obtain ⟨s0, h0, rfl, _⟩ := DataW.trod_string Tryz.underlying9 (hi 0 (by omega))
    obtain ⟨s1, h1, rfl, _⟩ := DataW.trod_string Tryz.underlying9 (hi 1 (by omega))
    obtain ⟨s2, h2, rfl, _⟩ := DataW.trod_string Tryz.underlying9 (hi 2 (by omega))
    simp at h0 h1 h2
    subst h0 h1 h2
    simp at hx
    obtain ⟨⟨h0, h1, h2⟩, _⟩ := hx
    exact ⟨s0, s1, s2, rfl, h0.symm, h1.symm, h2.symm⟩
theorem globs_of {W : World} {laid : List (String × DataW Unit)} (hL : laidMet Tryz.prog laid W) (hS : W.ShapedOpen Tryz.prog)
    (m0 : ("vidimus/anchors.words", Rows.laid_vidimus_anchors_words) ∈ laid) (m2 : ("internal/strconv.uint64pow10", Rows.laid_internal_strconv_uint64pow10) ∈ laid) (m6 : ("strconv.ErrRange", Rows.laid_strconv_ErrRange) ∈ laid) : ∃ m, Globs m W := by
  obtain ⟨ps, hv, _⟩ := hL
  obtain ⟨m, hm⟩ := cell_of_shapedOpen_int (zero := #[.int .i64 0]) (t := 3) (g := 1) (k := .i64) hS (of_decide_eq_true (by kernel_rfl)) (by kernel_rfl) rfl (by kernel_rfl) (by kernel_rfl) Tryz.underlying3
  have hsz : ∃ cs T fr, W.heap[1]? = some (.cells cs T fr) ∧ cs.size = 1 := by
    obtain ⟨cs, h1, h2, _⟩ := hS.1 1 #[.int .i64 0] 3 (of_decide_eq_true (by kernel_rfl)) (by kernel_rfl)
    exact ⟨cs, _, _, h1, h2⟩
  obtain ⟨cs1, T1, fr1, hb1, hz1⟩ := hsz
  obtain ⟨g0, t0, cs0, fu0, p0, e0, k0, l0, n0⟩ := laidVars_mem hv m0
  obtain ⟨g2, t2, cs2, fu2, p2, e2, k2, l2, n2⟩ := laidVars_mem hv m2
  obtain ⟨g6, t6, cs6, fu6, p6, e6, k6, l6, n6⟩ := laidVars_mem hv m6
  obtain rfl := Option.some.inj (g0n.symm.trans e0)
  obtain rfl := Option.some.inj (g2n.symm.trans e2)
  obtain rfl := Option.some.inj (g6n.symm.trans e6)
  obtain rfl := Option.some.inj (g0t.symm.trans k0)
  obtain rfl := Option.some.inj (g2t.symm.trans k2)
  obtain rfl := Option.some.inj (g6t.symm.trans k6)
  obtain ⟨T0, fr0, hb0⟩ := var_block e0 l0
  obtain ⟨T2, fr2, hb2⟩ := var_block e2 l2
  obtain ⟨T6, fr6, hb6⟩ := var_block e6 l6
  obtain ⟨s0, s1, s2, hc0, w0, w1, w2⟩ := words_cells n0
  obtain ⟨u6, v6, hc6⟩ := iface_cells Tryz.underlying110 n6
  have hc2 := Lib.cells_of_tab (zs := Lib.pow10Tab) (k := .u64) Tryz.underlying208 Tryz.underlying140 (by kernel_rfl) (by kernel_rfl) n2
  have hc1 : cs1.toList = [.int .i64 m] := by
    simp only [World.cell?, hb1] at hm
    have : cs1[0]? = some (.int .i64 m) := by simpa using hm
    apply List.ext_getElem?
    intro i
    cases i with
    | zero => simpa using this
    | succ i => rw [List.getElem?_eq_none (by simp; omega)]; rfl
  refine ⟨m, fun b cs hb => ?_⟩
  match b, hb with
  | 0, hb =>
    obtain rfl := Option.some.inj hb
    refine ⟨?_, cs0, T0, fr0, hb0, by rw [← Array.length_toList, hc0]; rfl⟩
    simp only [RelD]
    refine ⟨0, 0, cs0, T0, fr0, rfl, hb0, ?_⟩
    rw [hc0]
    simp only [wordsD, RelDs, RelD, List.drop_zero]
    exact ⟨⟨s0, rfl, by rw [w0]; rfl⟩, ⟨s1, rfl, by rw [w1]; rfl⟩, ⟨s2, rfl, by rw [w2]; rfl⟩, trivial⟩
  | 1, hb =>
    obtain rfl := Option.some.inj hb
    refine ⟨?_, cs1, T1, fr1, hb1, by rw [hz1]; rfl⟩
    simp only [RelD]
    refine ⟨1, 0, cs1, T1, fr1, rfl, hb1, ?_⟩
    rw [hc1]
    simp only [RelDs, RelD, List.drop_zero]
    exact ⟨trivial, trivial⟩
  | 2, hb =>
    obtain rfl := Option.some.inj hb
    refine ⟨?_, cs2, T2, fr2, hb2, by rw [← Array.length_toList, hc2]; simp [pow10D]⟩
    simp only [RelD]
    refine ⟨2, 0, cs2, T2, fr2, rfl, hb2, ?_⟩
    rw [hc2, List.drop_zero, RelDs.iff]
    intro j d hd
    rw [pow10D, List.getElem?_map] at hd
    obtain ⟨z, hz, rfl⟩ := Option.map_eq_some_iff.1 hd
    exact ⟨_, by rw [List.getElem?_map, hz]; rfl, by simp only [RelD]⟩
  | 6, hb =>
    obtain rfl := Option.some.inj hb
    refine ⟨?_, cs6, T6, fr6, hb6, by rw [← Array.length_toList, hc6]; rfl⟩
    simp only [RelD]
    refine ⟨6, 0, cs6, T6, fr6, rfl, hb6, ?_⟩
    rw [hc6]
    simp only [RelDs, RelD, List.drop_zero]
    exact ⟨⟨u6, v6, rfl⟩, trivial⟩
  | 3, hb => cases hb
  | 4, hb => cases hb
  | 5, hb => cases hb
  | n + 7, hb => cases hb
end Mini
end Go.Proofs.YtgjlofpfbhioaaaGreatDoor
namespace Go.Proofs.YtgjlofpfbhioaaaGreatDoor
namespace Mini
open Go Go.ChangeShapes Go.WideShapes Go.ChangeAt Go.RowKit Go.Deep
theorem laidOut : laidOutB Tryz.prog = true := by kernel_rfl
/-- An answer 'true' of the abstract machine, as a statement about the code. -/
theorem calls_true {X : Ctx} {m : Int} (hX : CtxOk Tryz.prog X) {n : Nat} {f : FuncId} {vs : List V} {W : World} {us : List Value} (hg : X.glob = glob0 m) (hG : Globs m W) (h : vcallN X n f vs = some (.c (.d (.bool true)))) (hr : RelVs (mm (imW W)) vs us) (hl : vs.length = us.length) :
    Calls Tryz.prog f us.toArray W fun e W' => e = .returned (.bool true) ∧ Below W.heap.size W W' := by
  refine (vcallN_ok hX h (imW W) W us (by rw [hg]; exact hG) (fun _ _ h => h) hr hl).mono fun e W' hh => ?_
  obtain ⟨v', I', rfl, h1, _, _, _, h2, h3, h4, h5, h6⟩ := hh
  simp only [RelV, RelC, RelD] at h1
  subst h1
  exact ⟨rfl, h2, h3, h4, h5, h6⟩
set_option maxRecDepth 100000 in
/-- What a call that answers 'true' and lays new memory alone owes its row: the arguments read as before. -/
theorem post_args {H : Type} {enc : TypeId × Value → H} {f : Func} {s : ChangeSpec} {apart fresh handsOn again : Bool} {W W' : World} {args : Array Value} {v : Value} {ds : List (DataW H)} {before : List MemPlace}
    (hW : DataW.Whole enc Tryz.prog f.params.toList s.vars apart W args.toList ds [] before)
    (hpar : f.params.toList.all (fun t => Tryz.prog.readableRec t && decide (t < Tryz.prog.types.size)) = true)
    (hsv : s.vars = []) (hsd : (s.fn H ds).args = ds) (hsv2 : (s.fn H ds).vars = [])
    (hres : ∀ (b : Nat) (sp : Nat → Bool) (hd : Bool), DataW.TrodAll enc Tryz.prog W' b sp hd f.resultTypes.toList (v.resultList f.resultTypes.size) (s.fn H ds).results [])
    (hb : Below W.heap.size W W')
    (hok : ∀ (j : Nat) (t : TypeId) (r : Value), f.resultTypes[j]? = some t → (v.resultList f.resultTypes.size)[j]? = some r → Value.okWide Tryz.prog W' .any 0 t r) :
    s.post enc Tryz.prog f apart fresh handsOn again W args v W' := by
  have hlt : ∀ p ∈ before, p.block < W.heap.size := fun p hp => hW.lt p hp
  have hW0 := hW
  obtain ⟨pa, pv, hA, hV, hps, hz, hn⟩ := hW
  rw [hsv] at hV
  obtain ⟨_, rfl⟩ := trodVars_none hV
  have hargs : ∀ sp : Nat → Bool, (∀ p ∈ before, sp p.block = true) → DataW.TrodAll enc Tryz.prog W' 0 sp true f.params.toList args.toList ds pa := by
    intro sp hsp
    rw [hps, List.append_nil] at hsp hlt
    have key : ∀ (ts : List TypeId) (vs : List Value) (ds : List (DataW H)) (pa : List MemPlace), ts.all (fun t => Tryz.prog.readableRec t && decide (t < Tryz.prog.types.size)) = true → DataW.TrodAll enc Tryz.prog W 0 (fun _ => true) true ts vs ds pa → (∀ p ∈ pa, sp p.block = true) → (∀ p ∈ pa, p.block < W.heap.size) → DataW.TrodAll enc Tryz.prog W' 0 sp true ts vs ds pa := by
      intro ts
      induction ts with
      | nil =>
        intro vs ds pa _ h _ _
        cases vs with
        | nil => cases ds with
          | nil => exact h
          | cons _ _ => exact h.elim
        | cons _ _ => cases ds <;> exact h.elim
      | cons t ts ih =>
        intro vs ds pa hall h h1 h2
        cases vs with
        | nil => cases ds <;> exact h.elim
        | cons v vs =>
          cases ds with
          | nil => exact h.elim
          | cons d ds =>
            obtain ⟨p, q, ha, hb', rfl⟩ := h
            rw [List.all_cons, Bool.and_eq_true, Bool.and_eq_true] at hall
            refine ⟨p, q, ?_, ih vs ds q hall.2 hb' (fun x hx => h1 x (List.mem_append_right _ hx)) (fun x hx => h2 x (List.mem_append_right _ hx)), rfl⟩
            exact WideElems.Trod_stays laidOut hall.1.1 (of_decide_eq_true hall.1.2) ha (fun x hx => hb.same (h2 x (List.mem_append_left _ hx))) (fun x hx => h1 x (List.mem_append_left _ hx))
    exact key _ _ _ _ hpar hA hsp hlt
  have hsd' : (s.fn H (ds ++ [])).args = ds := by rw [List.append_nil]; exact hsd
  have hres' : ∀ (b : Nat) (sp : Nat → Bool) (hd : Bool), DataW.TrodAll enc Tryz.prog W' b sp hd f.resultTypes.toList (v.resultList f.resultTypes.size) (s.fn H (ds ++ [])).results [] := by rw [List.append_nil]; exact hres
  have hvars : ∀ sp : Nat → Bool, DataW.TrodVars enc Tryz.prog W' sp s.vars (s.fn H (ds ++ [])).vars [] := by
    intro sp
    rw [hsv, List.append_nil, hsv2]
    rfl
  refine ⟨ds, [], before, [], pa, [], hW0, hres' _ _ _, by rw [hsd']; exact hargs _ (fun p hp => by simpa using hlt p hp), hvars _, hb.frame _, fun _ => ?_⟩
  refine ⟨hok, _, _, ([] ++ pa) ++ [], ⟨[] ++ pa, [], trodAll_append (hargs _ (fun _ _ => rfl)) (hres' _ _ _), hvars _, rfl, ?_, ?_⟩, ?_⟩
  · intro b off hp
    have hin : MemPlace.cell b off ∈ before := by rw [hps]; simpa using hp
    have hlb := hlt _ hin
    have := hz b off hin
    simp only [World.frozen?] at this ⊢
    rw [hb.block b (by simpa [MemPlace.block] using hlb)]
    exact this
  · intro ha
    have := hn ha
    rw [hps] at this
    simpa using this
  · intro p hp _
    rw [hps]
    simpa using hp
/-! ### OIDs, sets, anchors, inputs -/
section
variable {H : Type} {enc : TypeId × Value → H} {W : World} {base : Nat} {sp : Nat → Bool} {held : Bool}
theorem ints_list {k : IntKind} : ∀ {cs : List Value}, (∀ (i : Nat), i < cs.length → ∃ z : Int, (cs.drop i).take 1 = [.int k z] ∧ (Lit.int k z).wf = true) → ∃ zs : List Int, cs = zs.map (Value.int k) ∧ ∀ z ∈ zs, (Lit.int k z).wf = true
  | [], _ => ⟨[], rfl, fun _ h => by cases h⟩
  | c :: cs, h => by
    obtain ⟨z, h1, h2⟩ := h 0 (by simp)
    obtain ⟨zs, h3, h4⟩ := ints_list (cs := cs) fun i hi => by simpa using h (i + 1) (by simpa using hi)
    simp at h1
    subst h1
    refine ⟨z :: zs, by rw [h3]; rfl, fun x hx => ?_⟩
    rcases List.mem_cons.1 hx with rfl | hx
    · exact h2
    · exact h4 x hx
theorem open_oid {n : Nat} {cs : List Value} {y : DataW H × List MemPlace} (h : DataW.trod enc Tryz.prog W base sp held n 60 cs = some y) : ∃ o : Oid, RelDs (imW W) (oD o) cs ∧ (oD o).length = 17 ∧ wfO o := by
  have c5 : Tryz.prog.cellsOf 5 = 1 := by kernel_rfl
  have c58 : Tryz.prog.cellsOf 58 = 16 := by kernel_rfl
  have c60 : Tryz.prog.cellsOf 60 = 17 := by kernel_rfl
  obtain ⟨xs, k, rfl, rfl, hl, hn, hi⟩ := DataW.trod_struct Tryz.underlying60 h
  rw [c60] at hl
  have hn : xs.length = 2 := hn
  have h0 : DataW.trod enc Tryz.prog W base sp held k 5 ((cs.drop 0).take (Tryz.prog.cellsOf 5)) = xs[0]? := hi 0 _ rfl
  have h1 : DataW.trod enc Tryz.prog W base sp held k 58 ((cs.drop 1).take (Tryz.prog.cellsOf 58)) = xs[1]? := hi 1 _ rfl
  simp only [c5, c58] at h0 h1
  rw [List.getElem?_eq_getElem (by omega)] at h0 h1
  obtain ⟨z, e0, _, w0⟩ := DataW.trod_int Tryz.underlying5 h0
  obtain ⟨ys, k', rfl, _, hl1, hn1, hi1⟩ := DataW.trod_array Tryz.underlying58 h1
  obtain ⟨c, cs, rfl⟩ : ∃ c cs', cs = c :: cs' := by
    cases cs with
    | nil => simp at hl
    | cons c cs => exact ⟨c, cs, rfl⟩
  simp at e0
  subst e0
  have hl2 : cs.length = 16 := by simpa using hl
  have e1 : ((Value.int IntKind.u8 z :: cs).drop 1).take 16 = cs := by
    rw [List.drop_succ_cons, List.drop_zero, List.take_of_length_le (by omega)]
  obtain ⟨zs, e2, w2⟩ := ints_list (k := .u32) (cs := cs) fun i hi => by
    have h2 := hi1 i (by omega)
    rw [e1, (show Tryz.prog.cellsOf 57 = 1 from by kernel_rfl), Nat.mul_one] at h2
    rw [List.getElem?_eq_getElem (by omega)] at h2
    obtain ⟨z, e3, _, w3⟩ := DataW.trod_int Tryz.underlying57 h2
    exact ⟨z, e3, w3⟩
  subst e2
  have hb := bounds_u8 w0
  refine ⟨(z.toNat, zs.map Int.toNat), ?_, by simpa [oD] using hl2, ⟨by omega, by simpa using hl2, fun x hx => ?_⟩⟩
  · simp only [oD, RelDs, RelD]
    refine ⟨by rw [Int.toNat_of_nonneg hb.1], ?_⟩
    rw [RelDs.iff]
    intro j d hd
    rw [List.map_map, List.getElem?_map] at hd
    obtain ⟨x, hx, rfl⟩ := Option.map_eq_some_iff.1 hd
    have hx2 := bounds_u32 (w2 x (List.mem_of_getElem? hx))
    refine ⟨_, by rw [List.getElem?_map, hx]; rfl, ?_⟩
    simp only [Function.comp, u32D, RelD]
    rw [Int.toNat_of_nonneg hx2.1]
  · obtain ⟨x', hx', rfl⟩ := List.mem_map.1 hx
    have := bounds_u32 (w2 x' hx')
    omega
theorem open_set {n : Nat} {cs : List Value} {y : DataW H × List MemPlace} (h : DataW.trod enc Tryz.prog W base sp held n 22 cs = some y) : ∃ (v : Value) (w : D) (l : List Oid), cs = [v] ∧ isSet w l ∧ wfS l ∧ RelD (imW W) w v := by
  rcases open_sl (sz := 17) (Q := oD) (R := wfO) Tryz.underlying22 (by kernel_rfl) (by omega) h (fun n cs' y h => open_oid h) with h0 | ⟨v, l, h1, h2, h3⟩
  · exact ⟨_, .nils, [], h0, .inl ⟨rfl, rfl⟩, (fun _ h => by cases h), by simp only [RelD]⟩
  · exact ⟨v, slO l, l, h1, .inr rfl, fun o ho => (h2 o ho).2, h3⟩
theorem list_five {α : Type} : ∀ {l : List α}, l.length = 5 → ∃ a b c d e, l = [a, b, c, d, e]
  | [a, b, c, d, e], _ => ⟨a, b, c, d, e, rfl⟩
theorem list_four {α : Type} : ∀ {l : List α}, l.length = 4 → ∃ a b c d, l = [a, b, c, d]
  | [a, b, c, d], _ => ⟨a, b, c, d, rfl⟩
def anD (s : List Nat) (w : D) (b1 b2 b3 : Bool) : List D := [.str s, w, .bool b1, .bool b2, .bool b3]
def inD (w : D) (b1 b2 b3 : Bool) : List D := [w, .bool b1, .bool b2, .bool b3]
theorem open_anchor {n : Nat} {cs : List Value} {y : DataW H × List MemPlace} (h : DataW.trod enc Tryz.prog W base sp held n 24 cs = some y) : ∃ (s : List Nat) (w : D) (l : List Oid) (b1 b2 b3 : Bool), cs.length = 5 ∧ RelDs (imW W) (anD s w b1 b2 b3) cs ∧ isSet w l ∧ wfS l ∧ s.length ≤ maxLen ∧ ∀ c ∈ s, c < 256 := by
  have c4 : Tryz.prog.cellsOf 4 = 1 := by kernel_rfl
  have c9 : Tryz.prog.cellsOf 9 = 1 := by kernel_rfl
  have c22 : Tryz.prog.cellsOf 22 = 1 := by kernel_rfl
  have c24 : Tryz.prog.cellsOf 24 = 5 := by kernel_rfl
  obtain ⟨xs, k, rfl, rfl, hl, hn, hi⟩ := DataW.trod_struct Tryz.underlying24 h
  rw [c24] at hl
  have hn : xs.length = 5 := hn
  have h0 : DataW.trod enc Tryz.prog W base sp held k 9 ((cs.drop 0).take (Tryz.prog.cellsOf 9)) = xs[0]? := hi 0 _ rfl
  have h1 : DataW.trod enc Tryz.prog W base sp held k 22 ((cs.drop 1).take (Tryz.prog.cellsOf 22)) = xs[1]? := hi 1 _ rfl
  have h2 : DataW.trod enc Tryz.prog W base sp held k 4 ((cs.drop 2).take (Tryz.prog.cellsOf 4)) = xs[2]? := hi 2 _ rfl
  have h3 : DataW.trod enc Tryz.prog W base sp held k 4 ((cs.drop 3).take (Tryz.prog.cellsOf 4)) = xs[3]? := hi 3 _ rfl
  have h4 : DataW.trod enc Tryz.prog W base sp held k 4 ((cs.drop 4).take (Tryz.prog.cellsOf 4)) = xs[4]? := hi 4 _ rfl
  simp only [c4, c9, c22] at h0 h1 h2 h3 h4
  rw [List.getElem?_eq_getElem (by omega)] at h0 h1 h2 h3 h4
  obtain ⟨v0, v1, v2, v3, v4, rfl⟩ := list_five hl
  obtain ⟨s, e0, _, w0⟩ := DataW.trod_string Tryz.underlying9 h0
  obtain ⟨v, w, l, e1, hw, hwf, hr⟩ := open_set h1
  obtain ⟨b1, e2, _⟩ := DataW.trod_bool Tryz.underlying4 h2
  obtain ⟨b2, e3, _⟩ := DataW.trod_bool Tryz.underlying4 h3
  obtain ⟨b3, e4, _⟩ := DataW.trod_bool Tryz.underlying4 h4
  simp at e0 e1 e2 e3 e4
  subst e0 e1 e2 e3 e4
  refine ⟨s.data.toList.map UInt8.toNat, w, l, b1, b2, b3, rfl, ?_, hw, hwf, by simpa using w0, fun c hc => ?_⟩
  · simp only [anD, RelDs, RelD]
    exact ⟨⟨s, rfl, rfl⟩, hr, trivial, trivial, trivial, trivial⟩
  · obtain ⟨b, _, rfl⟩ := List.mem_map.1 hc
    exact b.toNat_lt
theorem open_inputs {n : Nat} {cs : List Value} {y : DataW H × List MemPlace} (h : DataW.trod enc Tryz.prog W base sp held n 26 cs = some y) : ∃ (w : D) (l : List Oid) (b1 b2 b3 : Bool), cs.length = 4 ∧ RelDs (imW W) (inD w b1 b2 b3) cs ∧ isSet w l ∧ wfS l := by
  have c4 : Tryz.prog.cellsOf 4 = 1 := by kernel_rfl
  have c22 : Tryz.prog.cellsOf 22 = 1 := by kernel_rfl
  have c26 : Tryz.prog.cellsOf 26 = 4 := by kernel_rfl
  obtain ⟨xs, k, rfl, rfl, hl, hn, hi⟩ := DataW.trod_struct Tryz.underlying26 h
  rw [c26] at hl
  have hn : xs.length = 4 := hn
  have h1 : DataW.trod enc Tryz.prog W base sp held k 22 ((cs.drop 0).take (Tryz.prog.cellsOf 22)) = xs[0]? := hi 0 _ rfl
  have h2 : DataW.trod enc Tryz.prog W base sp held k 4 ((cs.drop 1).take (Tryz.prog.cellsOf 4)) = xs[1]? := hi 1 _ rfl
  have h3 : DataW.trod enc Tryz.prog W base sp held k 4 ((cs.drop 2).take (Tryz.prog.cellsOf 4)) = xs[2]? := hi 2 _ rfl
  have h4 : DataW.trod enc Tryz.prog W base sp held k 4 ((cs.drop 3).take (Tryz.prog.cellsOf 4)) = xs[3]? := hi 3 _ rfl
  simp only [c4, c22] at h1 h2 h3 h4
  rw [List.getElem?_eq_getElem (by omega)] at h1 h2 h3 h4
  obtain ⟨v1, v2, v3, v4, rfl⟩ := list_four hl
  obtain ⟨v, w, l, e1, hw, hwf, hr⟩ := open_set h1
  obtain ⟨b1, e2, _⟩ := DataW.trod_bool Tryz.underlying4 h2
  obtain ⟨b2, e3, _⟩ := DataW.trod_bool Tryz.underlying4 h3
  obtain ⟨b3, e4, _⟩ := DataW.trod_bool Tryz.underlying4 h4
  simp at e1 e2 e3 e4
  subst e1 e2 e3 e4
  refine ⟨w, l, b1, b2, b3, rfl, ?_, hw, hwf⟩
  simp only [inD, RelDs, RelD]
  exact ⟨hr, trivial, trivial, trivial, trivial⟩
/-- Cells of several in a row are an aggregate's. -/
theorem rel_agg {I : Imm} {ds : List D} {v : Value} (h : RelDs I ds v.cells.toList) (hl : v.cells.toList.length = ds.length) (h2 : ds.length ≠ 1) : RelV (mm I) (.agg (ds.map .d)) v := by
  cases v with
  | agg arr =>
    simp only [RelV]
    refine ⟨arr, rfl, ?_, RelCs.of_d.2 h⟩
    rw [List.length_map, ← hl]; rfl
  | _ => exact absurd hl.symm h2
end
end Mini
end Go.Proofs.YtgjlofpfbhioaaaGreatDoor
namespace Go.Proofs.YtgjlofpfbhioaaaGreatDoor
namespace Mini
open Go Go.ChangeShapes Go.WideShapes Go.ChangeAt Go.RowKit
theorem own : ownKnob Tryz.prog.godebug = none := by kernel_rfl
theorem XAOk (m : Int) : XOk m (XA m) := CtxLe.refl _
def val1 : DataW Unit → Value
  | .lit (.int k n) => .int k n
  | .lit (.string s) => .string ⟨s.toArray⟩
  | _ => .nilIface
def row1 : DataW Unit → List Value
  | .agg ds => ds.map val1
  | d => [val1 d]
def row2 : DataW Unit → List Value
  | .agg ds => ds.flatMap row1
  | _ => []
def putVar (h : Array Obj) (g : Nat) (cs : List Value) : Array Obj := h.modify g fun
      | .cells _ t frozen => .cells cs.toArray t frozen
      | o => o
def errText (d : DataW Unit) : Value :=
  match d with
  | .iface _ (.ptr (.agg [x])) => val1 x
  | _ => .nilIface
noncomputable def laidWorld (os : Os) : World :=
  let w := World.holding Tryz.prog os ⟨#[.cells #[errText Rows.laid_strconv_ErrSyntax] 245, .cells #[errText Rows.laid_strconv_ErrRange] 245], #[], []⟩
  let h := putVar w.heap 0 (row1 Rows.laid_vidimus_anchors_words)
  let h := putVar h 2 (row1 Rows.laid_internal_strconv_uint64pow10)
  let h := putVar h 3 (row1 Rows.laid_unicode_utf8_first)
  let h := putVar h 4 (row2 Rows.laid_unicode_utf8_acceptRanges)
  let h := putVar h 5 [.iface 243 (.pointer (some ⟨Tryz.prog.low, 0, none⟩))]
  let h := putVar h 6 [.iface 243 (.pointer (some ⟨Tryz.prog.low + 1, 0, none⟩))]
  let h := putVar h 7 (row1 Rows.laid_math_bits_deBruijn32tab)
  let h := putVar h 8 (row1 Rows.laid_math_bits_deBruijn64tab)
  { w with heap := h }
theorem laid_met (os : Os) (args : Array Value) : laidMet Tryz.prog Rows.anchorsInputsRow.laid ((laidWorld os).forCall (fun _ _ => 0) ⟨#[], args, []⟩).memory :=
  laidMet_of_run' 8 (by kernel_rfl) (by kernel_rfl)
end Mini
end Go.Proofs.YtgjlofpfbhioaaaGreatDoor
namespace Go.Proofs.YtgjlofpfbhioaaaGreatDoor
namespace Mini
open Go Go.ChangeShapes Go.WideShapes Go.ChangeAt Go.RowKit Go.Deep
section
variable {H : Type} {enc : TypeId × Value → H} {W : World} {base : Nat} {sp : Nat → Bool} {held : Bool}
theorem open_anchors {n : Nat} {v : Value} {y : DataW H × List MemPlace} (h : DataW.trod enc Tryz.prog W base sp held n 41 [v] = some y) : ∃ (w : D) (l : List An), isAns w l ∧ (∀ a ∈ l, (isSet a.w a.l ∧ wfS a.l) ∧ a.s.length ≤ maxLen ∧ ∀ c ∈ a.s, c < 256) ∧ RelD (imW W) w v := by
  have key : ∀ n cs' y, DataW.trod enc Tryz.prog W base sp held n 24 cs' = some y → ∃ a : An, RelDs (imW W) (An.ds a) cs' ∧ (An.ds a).length = 5 ∧ ((isSet a.w a.l ∧ wfS a.l) ∧ a.s.length ≤ maxLen ∧ ∀ c ∈ a.s, c < 256) := by
    intro n cs' y h
    obtain ⟨s, w, l, b1, b2, b3, _, h2, h3, h4, h5, h6⟩ := open_anchor h
    exact ⟨⟨s, w, l, b1, b2, b3⟩, h2, rfl, ⟨h3, h4⟩, h5, h6⟩
  rcases open_sl (sz := 5) (Q := An.ds) (R := fun a => (isSet a.w a.l ∧ wfS a.l) ∧ a.s.length ≤ maxLen ∧ ∀ c ∈ a.s, c < 256) Tryz.underlying41 (by kernel_rfl) (by omega) h key with h0 | ⟨v', l, h1, h2, h3⟩
  · cases h0
    exact ⟨.nils, [], .inl ⟨rfl, rfl⟩, (fun _ h => by cases h), by simp only [RelD]⟩
  · cases h1
    exact ⟨_, l, .inr rfl, fun a ha => (h2 a ha).2, h3⟩
end
end Mini
end Go.Proofs.YtgjlofpfbhioaaaGreatDoor
