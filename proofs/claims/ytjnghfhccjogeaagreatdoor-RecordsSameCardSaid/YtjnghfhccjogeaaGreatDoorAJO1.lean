/-
  RecordsSame: texts of the proof: O1, O2, O3, O4, O5.
-/
import Derived.Test.YtjnghfhccjogeaaGreatDoorAS7
import Derived.ProofKit
import Derived.OpenShut
import Derived.Deep.Slices
import Derived.Carry
import Derived.Test.YtjnghfhccjogeaaGreatDoorRows
import Derived.Lib.LaidTab
import Derived.Shelf.Vars
import Derived.WalkKit
import Derived.Test.YtjnghfhccjogeaaGreatDoorCards
import Derived.Test.YtjnghfhccjogeaaGreatDoorTie
import Derived.Deep.DeepHandedRow
namespace Go.Proofs.YtjnghfhccjogeaaGreatDoor
namespace Mini
open Go Go.ChangeShapes Go.WideShapes Go.ChangeAt Go.RowKit Go.Deep
def imW (W : World) : Imm := fun B => W.heap[B]?
theorem relDs_append {I : Imm} : ∀ {xs ys : List D} {vs : List Value}, RelDs I xs vs → RelDs I ys (vs.drop xs.length) → RelDs I (xs ++ ys) vs
  | [], _, _, _, h => by simpa using h
  | x :: xs, ys, [], h, _ => by simp only [RelDs] at h
  | x :: xs, ys, v :: vs, h, k => by
    simp only [RelDs, List.cons_append] at h ⊢
    exact ⟨h.1, relDs_append h.2 (by simpa using k)⟩
theorem relDs_flat {I : Imm} {α : Type} {Q : α → List D} {sz : Nat} {vs : List Value} : ∀ {l : List α} {o : Nat}, (∀ a ∈ l, (Q a).length = sz) → (∀ i a, l[i]? = some a → RelDs I (Q a) (vs.drop (o + i * sz))) → RelDs I (l.flatMap Q) (vs.drop o)
  | [], _, _, _ => RelDs.nil _ _
  | a :: l, o, hl, h => by
    rw [List.flatMap_cons]
    have h0 := h 0 a rfl
    simp only [Nat.zero_mul, Nat.add_zero] at h0
    refine relDs_append h0 ?_
    rw [hl a List.mem_cons_self, List.drop_drop]
    refine relDs_flat (fun x hx => hl x (List.mem_cons_of_mem _ hx)) fun i x hx => ?_
    have := h (i + 1) x (by simpa using hx)
    rwa [Nat.succ_mul, ← Nat.add_assoc, Nat.add_right_comm] at this
section
variable {H : Type} {enc : TypeId × Value → H} {P : Program} {W : World} {base : Nat} {sp : Nat → Bool} {held : Bool}
theorem cells_rel {a : Addr} {n : Nat} {cs : List Value} (h : W.cells? base a n = some cs) (hn : 0 < n) : ∃ arr T fr, a = ⟨a.block, a.off, none⟩ ∧ W.heap[a.block]? = some (.cells arr T fr) ∧ ∀ i, i < n → arr.toList[a.off + i]? = cs[i]? := by
  obtain ⟨hb, hl, hc⟩ := World.cells?_some h
  obtain ⟨b, o, spot⟩ := a
  have h0 := hc 0 hn
  rw [List.getElem?_eq_getElem (by omega)] at h0
  have hspot : spot = none := by simpa [Addr.add] using World.cell?_spot h0
  subst hspot
  have hadd : ∀ i, (⟨b, o, none⟩ : Addr).add i = ⟨b, o + i, none⟩ := fun i => by
    unfold Addr.add
    split
    · rename_i h; subst h; rfl
    · rfl
  cases ho : W.heap[b]? with
  | none => rw [hadd] at h0; simp [World.cell?, ho] at h0
  | some ob =>
    cases ob with
    | cells arr T fr =>
      refine ⟨arr, T, fr, rfl, rfl, fun i hi => ?_⟩
      have := hc i hi
      rw [hadd] at this
      simp [World.cell?, ho] at this
      simpa using this
    | _ => rw [hadd] at h0; simp [World.cell?, ho] at h0
theorem open_sl {t e : TypeId} {sz fuel : Nat} {cs : List Value} {x : DataW H × List MemPlace} {α : Type} {Q : α → List D} {R : α → Prop} (ht : P.underlying t = some (.slice e)) (hsz : P.cellsOf e = sz) (hpos : 0 < sz)
    (h : DataW.trod enc P W base sp held fuel t cs = some x)
    (he : ∀ n cs' y, DataW.trod enc P W base sp held n e cs' = some y → ∃ a, RelDs (imW W) (Q a) cs' ∧ (Q a).length = sz ∧ R a) :
    cs = [.slice none 0 0] ∨ ∃ (v : Value) (l : List α), cs = [v] ∧ (∀ a ∈ l, (Q a).length = sz ∧ R a) ∧ RelD (imW W) (.sl (l.flatMap Q) l.length) v := by
  rcases open_slice ht h with ⟨h0, _⟩ | ⟨a, len, cap, m, n, _, _, rfl, hb, hlc, hm, hmm, _, hx⟩
  · exact .inl h0
  right
  have hlm : len ≤ m := by rw [hmm]; split <;> omega
  rw [hsz] at hx
  have hel : ∀ i, i < len → ∃ (a' : α) (cs' : List Value), W.cells? base (a.add (i * sz)) sz = some cs' ∧ RelDs (imW W) (Q a') cs' ∧ (Q a').length = sz ∧ R a' := fun i hi => by
    obtain ⟨cs', h1, h2⟩ := hx i (by omega)
    obtain ⟨a', h3, h4, h5⟩ := he _ _ _ h2
    exact ⟨a', cs', h1, h3, h4, h5⟩
  rcases Nat.eq_zero_or_pos len with rfl | hlen
  · exact ⟨_, [], rfl, (fun _ h => by cases h), (by simp only [RelD]; exact ⟨_, _, rfl, Nat.zero_le _, .inl rfl⟩)⟩
  have hx0 := hel 0 hlen
  obtain ⟨a0, cs0, h1, _⟩ := hx0
  rw [Nat.zero_mul] at h1
  have ha0 : a.add 0 = a := rfl
  rw [ha0] at h1
  obtain ⟨arr, T, fr, hpl, hblk, _⟩ := cells_rel h1 hpos
  have hch : ∃ l : List α, l.length = len ∧ ∀ i a', l[i]? = some a' → ∃ cs', W.cells? base (a.add (i * sz)) sz = some cs' ∧ RelDs (imW W) (Q a') cs' ∧ (Q a').length = sz ∧ R a' := by
    have : ∀ k, k ≤ len → ∃ l : List α, l.length = k ∧ ∀ i a', l[i]? = some a' → ∃ cs', W.cells? base (a.add (i * sz)) sz = some cs' ∧ RelDs (imW W) (Q a') cs' ∧ (Q a').length = sz ∧ R a' := by
      intro k
      induction k with
      | zero => exact fun _ => ⟨[], rfl, fun i a' h => by simp at h⟩
      | succ k ih =>
        intro hk
        obtain ⟨l, hl, hi⟩ := ih (by omega)
        obtain ⟨a', ha'⟩ := hel k (by omega)
        refine ⟨l ++ [a'], by simp [hl], fun i x hx => ?_⟩
        rcases Nat.lt_or_ge i l.length with hlt | hge
        · rw [List.getElem?_append_left hlt] at hx
          exact hi i x hx
        · rw [List.getElem?_append_right hge] at hx
          have : i = k := by
            rcases Nat.eq_zero_or_pos (i - l.length) with h0 | h0
            · omega
            · rw [List.getElem?_eq_none (by simp; omega)] at hx; cases hx
          subst this
          rw [hl, Nat.sub_self] at hx
          simp at hx
          subst hx
          exact ha'
    exact this len (Nat.le_refl _)
  obtain ⟨l, hl, hi⟩ := hch
  have hmem : ∀ x ∈ l, (Q x).length = sz ∧ R x := fun x hx => by
    obtain ⟨i, hlt, rfl⟩ := List.getElem_of_mem hx
    obtain ⟨_, _, _, h4, h5⟩ := hi i _ (List.getElem?_eq_getElem hlt)
    exact ⟨h4, h5⟩
  refine ⟨_, l, rfl, hmem, ?_⟩
  simp only [RelD]
  refine ⟨_, _, by rw [hl], by rw [hl]; exact hlc, .inr ⟨a.block, a.off, arr, T, fr, by rw [← hpl], hblk, ?_⟩⟩
  refine relDs_flat (fun x hx => (hmem x hx).1) fun i x hx => ?_
  obtain ⟨cs', h1, h2, h3, _⟩ := hi i x hx
  obtain ⟨arr', T', fr', hpl', hblk', hc'⟩ := cells_rel h1 hpos
  have hb' : (a.add (i * sz)).block = a.block := by unfold Addr.add; split <;> rfl
  have ho' : (a.add (i * sz)).off = a.off + i * sz := by
    unfold Addr.add
    split
    · omega
    · rfl
  rw [hb', hblk] at hblk'
  cases hblk'
  rw [ho'] at hc'
  rw [RelDs.iff] at h2 ⊢
  intro j d hd
  obtain ⟨v, hv, hr⟩ := h2 j d hd
  refine ⟨v, ?_, hr⟩
  have hj : j < sz := by
    rw [← h3]; exact (List.getElem?_eq_some_iff.1 hd).1
  rw [List.getElem?_drop, hc' j hj]
  exact hv
end
end Mini
end Go.Proofs.YtjnghfhccjogeaaGreatDoor
namespace Go.Proofs.YtjnghfhccjogeaaGreatDoor
namespace Mini
open Go
theorem laidVars_mem {P : Program} {W : World} {n : String} {d : DataW Unit} : ∀ {laid : List (String × DataW Unit)} {ps : List MemPlace}, DataW.LaidVars P W laid ps → (n, d) ∈ laid →
    ∃ g t cs fuel p, P.globalNamed n = some g ∧ (P.globals[g]?).map (·.type) = some t ∧ W.var? P n = some cs ∧ DataW.trod (fun _ => ()) P W 0 (fun _ => true) false fuel t cs.toList = some (d, p)
  | (n', d') :: laid, ps, h, hm => by
    obtain ⟨g, t, cs, fuel, p, q, h1, h2, h3, h4, h5, _⟩ := h
    rcases List.mem_cons.1 hm with he | hm
    · cases he
      exact ⟨g, t, cs, fuel, p, h1, h2, h3, h4⟩
    · exact laidVars_mem h5 hm
theorem var_block {P : Program} {W : World} {n : String} {g : Nat} {cs : Array Value} (hg : P.globalNamed n = some g) (h : W.var? P n = some cs) : ∃ T fr, W.heap[g]? = some (.cells cs T fr) := by
  unfold World.var? at h
  rw [hg] at h
  simp only [Option.bind_some] at h
  split at h
  · rename_i cs' T fr hb
    cases h
    exact ⟨T, fr, hb⟩
  · cases h
def Globs (m : Int) (W : World) : Prop := GlobOk (glob0 m) (imW W)
theorem g7n : Tryz.prog.globalNamed "internal/strconv.uint64pow10" = some 7 := by kernel_rfl
theorem g7t : (Tryz.prog.globals[7]?).map (·.type) = some 312 := by kernel_rfl
theorem globs_of {W : World} {laid : List (String × DataW Unit)} (hL : laidMet Tryz.prog laid W) (hS : W.ShapedOpen Tryz.prog)
    (m2 : ("internal/strconv.uint64pow10", Rows.laid_internal_strconv_uint64pow10) ∈ laid) : ∃ m, Globs m W := by
  obtain ⟨ps, hv, _⟩ := hL
  obtain ⟨m, hm⟩ := cell_of_shapedOpen_int (zero := #[.int .i64 0]) (t := 3) (g := 3) (k := .i64) hS (of_decide_eq_true (by kernel_rfl)) (by kernel_rfl) rfl (by kernel_rfl) (by kernel_rfl) Tryz.underlying3
  have hsz : ∃ cs T fr, W.heap[3]? = some (.cells cs T fr) ∧ cs.size = 1 := by
    obtain ⟨cs, h1, h2, _⟩ := hS.1 3 #[.int .i64 0] 3 (of_decide_eq_true (by kernel_rfl)) (by kernel_rfl)
    exact ⟨cs, _, _, h1, h2⟩
  obtain ⟨cs1, T1, fr1, hb1, hz1⟩ := hsz
  obtain ⟨g2, t2, cs2, fu2, p2, e2, k2, l2, n2⟩ := laidVars_mem hv m2
  obtain rfl := Option.some.inj (g7n.symm.trans e2)
  obtain rfl := Option.some.inj (g7t.symm.trans k2)
  obtain ⟨T2, fr2, hb2⟩ := var_block e2 l2
  have hc2 := Lib.cells_of_tab (zs := Lib.pow10Tab) (k := .u64) Tryz.underlying312 Tryz.underlying176 (by kernel_rfl) (by kernel_rfl) n2
  have hc1 : cs1.toList = [.int .i64 m] := by
    simp only [World.cell?, hb1] at hm
    have : cs1[0]? = some (.int .i64 m) := by simpa using hm
    apply List.ext_getElem?
    intro i
    cases i with
    | zero => simpa using this
    | succ i => rw [List.getElem?_eq_none (by simp; omega)]; rfl
  refine ⟨m, fun b cs hb => ?_⟩
  unfold glob0 at hb
  split at hb
  · obtain rfl := Option.some.inj hb
    refine ⟨?_, cs1, T1, fr1, hb1, by rw [hz1]; rfl⟩
    simp only [RelD]
    refine ⟨3, 0, cs1, T1, fr1, rfl, hb1, ?_⟩
    rw [hc1]
    simp only [RelDs, RelD, List.drop_zero]
    exact ⟨trivial, trivial⟩
  · obtain rfl := Option.some.inj hb
    refine ⟨?_, cs2, T2, fr2, hb2, by rw [← Array.length_toList, hc2]; simp [pow10D]⟩
    simp only [RelD]
    refine ⟨7, 0, cs2, T2, fr2, rfl, hb2, ?_⟩
    rw [hc2, List.drop_zero, RelDs.iff]
    intro j d hd
    rw [pow10D, List.getElem?_map] at hd
    obtain ⟨z, hz, rfl⟩ := Option.map_eq_some_iff.1 hd
    exact ⟨_, by rw [List.getElem?_map, hz]; rfl, by simp only [RelD]⟩
  · cases hb
end Mini
end Go.Proofs.YtjnghfhccjogeaaGreatDoor
namespace Go.Proofs.YtjnghfhccjogeaaGreatDoor
namespace Mini
open Go Go.ChangeShapes Go.WideShapes Go.ChangeAt Go.RowKit Go.Deep
theorem laidOut : laidOutB Tryz.prog = true := by kernel_rfl
theorem calls_true {X : Ctx} {m : Int} (hX : CtxOk Tryz.prog X) {n : Nat} {f : FuncId} {vs : List V} {W : World} {us : List Value} (hg : X.glob = glob0 m) (hG : Globs m W) (h : vcallN X n f vs = some (.c (.d (.bool true)))) (hr : RelVs (mm (imW W)) vs us) (hl : vs.length = us.length) :
    Calls Tryz.prog f us.toArray W fun e W' => e = .returned (.bool true) ∧ Below W.heap.size W W' := by
  refine (vcallN_ok hX h (imW W) W us (by rw [hg]; exact hG) (fun _ _ h => h) hr hl).mono fun e W' hh => ?_
  obtain ⟨v', I', rfl, h1, _, _, _, h2, h3, h4, h5, h6⟩ := hh
  simp only [RelV, RelC, RelD] at h1
  subst h1
  exact ⟨rfl, h2, h3, h4, h5, h6⟩
set_option maxRecDepth 100000 in
theorem post_args {H : Type} {enc : TypeId × Value → H} {f : Func} {s : ChangeSpec} {apart fresh handsOn again : Bool} {W W' : World} {args : Array Value} {v : Value} {ds : List (DataW H)} {before : List MemPlace}
    (hW : DataW.Whole enc Tryz.prog f.params.toList s.vars apart W args.toList ds [] before)
    (hpar : f.params.toList.all (fun t => Tryz.prog.readableRec t && decide (t < Tryz.prog.types.size)) = true)
    (hsv : s.vars = []) (hsd : (s.fn H ds).args = ds) (hsv2 : (s.fn H ds).vars = [])
    (hres : ∀ (b : Nat) (sp : Nat → Bool) (hd : Bool), DataW.TrodAll enc Tryz.prog W' b sp hd f.resultTypes.toList (v.resultList f.resultTypes.size) (s.fn H ds).results [])
    (hb : Below W.heap.size W W')
    (hok : ∀ (j : Nat) (t : TypeId) (r : Value), f.resultTypes[j]? = some t → (v.resultList f.resultTypes.size)[j]? = some r → Value.okWide Tryz.prog W' .any 0 t r) :
    s.post enc Tryz.prog f apart fresh handsOn again W args v W' := by
  have hlt : ∀ p ∈ before, p.block < W.heap.size := fun p hp => hW.lt p hp
  have hW0 := hW
  obtain ⟨pa, pv, hA, hV, hps, hz, hn⟩ := hW
  rw [hsv] at hV
  obtain ⟨_, rfl⟩ := trodVars_none hV
  have hargs : ∀ sp : Nat → Bool, (∀ p ∈ before, sp p.block = true) → DataW.TrodAll enc Tryz.prog W' 0 sp true f.params.toList args.toList ds pa := by
    intro sp hsp
    rw [hps, List.append_nil] at hsp hlt
    have key : ∀ (ts : List TypeId) (vs : List Value) (ds : List (DataW H)) (pa : List MemPlace), ts.all (fun t => Tryz.prog.readableRec t && decide (t < Tryz.prog.types.size)) = true → DataW.TrodAll enc Tryz.prog W 0 (fun _ => true) true ts vs ds pa → (∀ p ∈ pa, sp p.block = true) → (∀ p ∈ pa, p.block < W.heap.size) → DataW.TrodAll enc Tryz.prog W' 0 sp true ts vs ds pa := by
      intro ts
      induction ts with
      | nil =>
        intro vs ds pa _ h _ _
        cases vs with
        | nil => cases ds with
          | nil => exact h
          | cons _ _ => exact h.elim
        | cons _ _ => cases ds <;> exact h.elim
      | cons t ts ih =>
        intro vs ds pa hall h h1 h2
        cases vs with
        | nil => cases ds <;> exact h.elim
        | cons v vs =>
          cases ds with
          | nil => exact h.elim
          | cons d ds =>
            obtain ⟨p, q, ha, hb', rfl⟩ := h
            rw [List.all_cons, Bool.and_eq_true, Bool.and_eq_true] at hall
            refine ⟨p, q, ?_, ih vs ds q hall.2 hb' (fun x hx => h1 x (List.mem_append_right _ hx)) (fun x hx => h2 x (List.mem_append_right _ hx)), rfl⟩
            exact WideElems.Trod_stays laidOut hall.1.1 (of_decide_eq_true hall.1.2) ha (fun x hx => hb.same (h2 x (List.mem_append_left _ hx))) (fun x hx => h1 x (List.mem_append_left _ hx))
    exact key _ _ _ _ hpar hA hsp hlt
  have hsd' : (s.fn H (ds ++ [])).args = ds := by rw [List.append_nil]; exact hsd
  have hres' : ∀ (b : Nat) (sp : Nat → Bool) (hd : Bool), DataW.TrodAll enc Tryz.prog W' b sp hd f.resultTypes.toList (v.resultList f.resultTypes.size) (s.fn H (ds ++ [])).results [] := by rw [List.append_nil]; exact hres
  have hvars : ∀ sp : Nat → Bool, DataW.TrodVars enc Tryz.prog W' sp s.vars (s.fn H (ds ++ [])).vars [] := by
    intro sp
    rw [hsv, List.append_nil, hsv2]
    rfl
  refine ⟨ds, [], before, [], pa, [], hW0, hres' _ _ _, by rw [hsd']; exact hargs _ (fun p hp => by simpa using hlt p hp), hvars _, hb.frame _, fun _ => ?_⟩
  refine ⟨hok, _, _, ([] ++ pa) ++ [], ⟨[] ++ pa, [], trodAll_append (hargs _ (fun _ _ => rfl)) (hres' _ _ _), hvars _, rfl, ?_, ?_⟩, ?_⟩
  · intro b off hp
    have hin : MemPlace.cell b off ∈ before := by rw [hps]; simpa using hp
    have hlb := hlt _ hin
    have := hz b off hin
    simp only [World.frozen?] at this ⊢
    rw [hb.block b (by simpa [MemPlace.block] using hlb)]
    exact this
  · intro ha
    have := hn ha
    rw [hps] at this
    simpa using this
  · intro p hp _
    rw [hps]
    simpa using hp
section
variable {H : Type} {enc : TypeId × Value → H} {W : World} {base : Nat} {sp : Nat → Bool} {held : Bool}
theorem ints_list {k : IntKind} : ∀ {cs : List Value}, (∀ (i : Nat), i < cs.length → ∃ z : Int, (cs.drop i).take 1 = [.int k z] ∧ (Lit.int k z).wf = true) → ∃ zs : List Int, cs = zs.map (Value.int k) ∧ ∀ z ∈ zs, (Lit.int k z).wf = true
  | [], _ => ⟨[], rfl, fun _ h => by cases h⟩
  | c :: cs, h => by
    obtain ⟨z, h1, h2⟩ := h 0 (by simp)
    obtain ⟨zs, h3, h4⟩ := ints_list (cs := cs) fun i hi => by simpa using h (i + 1) (by simpa using hi)
    simp at h1
    subst h1
    refine ⟨z :: zs, by rw [h3]; rfl, fun x hx => ?_⟩
    rcases List.mem_cons.1 hx with rfl | hx
    · exact h2
    · exact h4 x hx
theorem open_oid {n : Nat} {cs : List Value} {y : DataW H × List MemPlace} (h : DataW.trod enc Tryz.prog W base sp held n 29 cs = some y) : ∃ o : Oid, RelDs (imW W) (oD o) cs ∧ (oD o).length = 17 ∧ wfO o := by
  have c5 : Tryz.prog.cellsOf 5 = 1 := by kernel_rfl
  have c27 : Tryz.prog.cellsOf 27 = 16 := by kernel_rfl
  have c29 : Tryz.prog.cellsOf 29 = 17 := by kernel_rfl
  obtain ⟨xs, k, rfl, rfl, hl, hn, hi⟩ := DataW.trod_struct Tryz.underlying29 h
  rw [c29] at hl
  have hn : xs.length = 2 := hn
  have h0 : DataW.trod enc Tryz.prog W base sp held k 5 ((cs.drop 0).take (Tryz.prog.cellsOf 5)) = xs[0]? := hi 0 _ rfl
  have h1 : DataW.trod enc Tryz.prog W base sp held k 27 ((cs.drop 1).take (Tryz.prog.cellsOf 27)) = xs[1]? := hi 1 _ rfl
  simp only [c5, c27] at h0 h1
  rw [List.getElem?_eq_getElem (by omega)] at h0 h1
  obtain ⟨z, e0, _, w0⟩ := DataW.trod_int Tryz.underlying5 h0
  obtain ⟨ys, k', rfl, _, hl1, hn1, hi1⟩ := DataW.trod_array Tryz.underlying27 h1
  obtain ⟨c, cs, rfl⟩ : ∃ c cs', cs = c :: cs' := by
    cases cs with
    | nil => simp at hl
    | cons c cs => exact ⟨c, cs, rfl⟩
  simp at e0
  subst e0
  have hl2 : cs.length = 16 := by simpa using hl
  have e1 : ((Value.int IntKind.u8 z :: cs).drop 1).take 16 = cs := by
    rw [List.drop_succ_cons, List.drop_zero, List.take_of_length_le (by omega)]
  obtain ⟨zs, e2, w2⟩ := ints_list (k := .u32) (cs := cs) fun i hi => by
    have h2 := hi1 i (by omega)
    rw [e1, (show Tryz.prog.cellsOf 26 = 1 from by kernel_rfl), Nat.mul_one] at h2
    rw [List.getElem?_eq_getElem (by omega)] at h2
    obtain ⟨z, e3, _, w3⟩ := DataW.trod_int Tryz.underlying26 h2
    exact ⟨z, e3, w3⟩
  subst e2
  have hb := bounds_u8 w0
  refine ⟨(z.toNat, zs.map Int.toNat), ?_, by simpa [oD] using hl2, ⟨by omega, by simpa using hl2, fun x hx => ?_⟩⟩
  · simp only [oD, RelDs, RelD]
    refine ⟨by rw [Int.toNat_of_nonneg hb.1], ?_⟩
    rw [RelDs.iff]
    intro j d hd
    rw [List.map_map, List.getElem?_map] at hd
    obtain ⟨x, hx, rfl⟩ := Option.map_eq_some_iff.1 hd
    have hx2 := bounds_u32 (w2 x (List.mem_of_getElem? hx))
    refine ⟨_, by rw [List.getElem?_map, hx]; rfl, ?_⟩
    simp only [Function.comp, u32D, RelD]
    rw [Int.toNat_of_nonneg hx2.1]
  · obtain ⟨x', hx', rfl⟩ := List.mem_map.1 hx
    have := bounds_u32 (w2 x' hx')
    omega
theorem rel_agg {I : Imm} {ds : List D} {v : Value} (h : RelDs I ds v.cells.toList) (hl : v.cells.toList.length = ds.length) (h2 : ds.length ≠ 1) : RelV (mm I) (.agg (ds.map .d)) v := by
  cases v with
  | agg arr =>
    simp only [RelV]
    refine ⟨arr, rfl, ?_, RelCs.of_d.2 h⟩
    rw [List.length_map, ← hl]; rfl
  | _ => exact absurd hl.symm h2
end
end Mini
end Go.Proofs.YtjnghfhccjogeaaGreatDoor
namespace Go.Proofs.YtjnghfhccjogeaaGreatDoor
namespace Mini
open Go Go.ChangeShapes Go.WideShapes Go.ChangeAt Go.RowKit Go.Deep
theorem relDs_take {I : Imm} {ds : List D} {vs : List Value} {k : Nat} (h : RelDs I ds (vs.take k)) : RelDs I ds vs := by
  rw [RelDs.iff] at h ⊢
  intro j d hd
  obtain ⟨v, hv, hr⟩ := h j d hd
  refine ⟨v, ?_, hr⟩
  rw [List.getElem?_take] at hv
  split at hv
  · exact hv
  · cases hv
theorem relDs_cat {I : Imm} {xs ys : List D} {vs : List Value} {o : Nat} (h : RelDs I xs (vs.drop o)) (k : RelDs I ys (vs.drop (o + xs.length))) : RelDs I (xs ++ ys) (vs.drop o) :=
  relDs_append h (by rw [List.drop_drop]; exact k)
theorem relDs_1 {I : Imm} {d : D} {v : Value} {vs : List Value} (h : vs.take 1 = [v]) (hr : RelD I d v) : RelDs I [d] vs :=
  relDs_take (k := 1) (by rw [h]; exact ⟨hr, trivial⟩)
section
variable {H : Type} {enc : TypeId × Value → H} {W : World} {base : Nat} {sp : Nat → Bool} {held : Bool}
theorem open_by {n : Nat} {cs : List Value} {y : DataW H × List MemPlace} (h : DataW.trod enc Tryz.prog W base sp held n 46 cs = some y) : ∃ (v : Value) (w : D) (bs : List Nat), cs = [v] ∧ isSl byD w bs ∧ (∀ b ∈ bs, b < 256) ∧ RelD (imW W) w v := by
  have key : ∀ n cs' y, DataW.trod enc Tryz.prog W base sp held n 5 cs' = some y → ∃ b : Nat, RelDs (imW W) (byD b) cs' ∧ (byD b).length = 1 ∧ b < 256 := by
    intro n cs' y h
    obtain ⟨z, rfl, _, w0⟩ := DataW.trod_int Tryz.underlying5 h
    have hb := bounds_u8 w0
    refine ⟨z.toNat, ?_, rfl, by omega⟩
    simp only [byD, RelDs, RelD]
    exact ⟨by rw [Int.toNat_of_nonneg hb.1], trivial⟩
  rcases open_sl (sz := 1) (Q := byD) (R := fun b => b < 256) Tryz.underlying46 (by kernel_rfl) (by omega) h key with h0 | ⟨v, l, h1, h2, h3⟩
  · exact ⟨_, .nils, [], h0, .inl ⟨rfl, rfl⟩, (fun _ h => by cases h), by simp only [RelD]⟩
  · exact ⟨v, _, l, h1, .inr rfl, fun b hb => (h2 b hb).2, h3⟩
theorem open_ns {n : Nat} {cs : List Value} {y : DataW H × List MemPlace} (h : DataW.trod enc Tryz.prog W base sp held n 64 cs = some y) : ∃ (v : Value) (w : D) (l : List Int), cs = [v] ∧ isSl nD w l ∧ RelD (imW W) w v := by
  have key : ∀ n cs' y, DataW.trod enc Tryz.prog W base sp held n 26 cs' = some y → ∃ b : Int, RelDs (imW W) (nD b) cs' ∧ (nD b).length = 1 ∧ True := by
    intro n cs' y h
    obtain ⟨z, rfl, _, w0⟩ := DataW.trod_int Tryz.underlying26 h
    exact ⟨z, by simp only [nD, RelDs, RelD]; exact ⟨trivial, trivial⟩, rfl, trivial⟩
  rcases open_sl (sz := 1) (Q := nD) (R := fun _ => True) Tryz.underlying64 (by kernel_rfl) (by omega) h key with h0 | ⟨v, l, h1, h2, h3⟩
  · exact ⟨_, .nils, [], h0, .inl ⟨rfl, rfl⟩, by simp only [RelD]⟩
  · exact ⟨v, _, l, h1, .inr rfl, h3⟩
theorem open_ch {n : Nat} {cs : List Value} {y : DataW H × List MemPlace} (h : DataW.trod enc Tryz.prog W base sp held n 63 cs = some y) : ∃ (k : Int) (s : List Nat), RelDs (imW W) [.int .u32 k, .str s] cs := by
  have c9 : Tryz.prog.cellsOf 9 = 1 := by kernel_rfl
  have c26 : Tryz.prog.cellsOf 26 = 1 := by kernel_rfl
  have c63 : Tryz.prog.cellsOf 63 = 2 := by kernel_rfl
  obtain ⟨xs, k, rfl, rfl, hl, hn, hi⟩ := DataW.trod_struct Tryz.underlying63 h
  rw [c63] at hl
  have hn : xs.length = 2 := hn
  have h0 : DataW.trod enc Tryz.prog W base sp held k 26 ((cs.drop 0).take (Tryz.prog.cellsOf 26)) = xs[0]? := hi 0 _ rfl
  have h1 : DataW.trod enc Tryz.prog W base sp held k 9 ((cs.drop 1).take (Tryz.prog.cellsOf 9)) = xs[1]? := hi 1 _ rfl
  simp only [c9, c26] at h0 h1
  rw [List.getElem?_eq_getElem (by omega)] at h0 h1
  obtain ⟨z, e0, _, w0⟩ := DataW.trod_int Tryz.underlying26 h0
  obtain ⟨s, e1, _, w1⟩ := DataW.trod_string Tryz.underlying9 h1
  refine ⟨z, s.data.toList.map UInt8.toNat, ?_⟩
  have r0 : RelDs (imW W) [.int .u32 z] (cs.drop 0) := relDs_1 e0 (by simp only [RelD])
  exact relDs_cat (xs := [.int .u32 z]) (o := 0) r0 (relDs_1 e1 (by simp only [RelD]; exact ⟨s, rfl, rfl⟩))
theorem open_qu {n : Nat} {cs : List Value} {y : DataW H × List MemPlace} (h : DataW.trod enc Tryz.prog W base sp held n 66 cs = some y) : ∃ q : Qu, RelDs (imW W) q.ds cs ∧ q.ds.length = 27 ∧ q.ok := by
  have c61 : Tryz.prog.cellsOf 61 = 1 := by kernel_rfl
  have c9 : Tryz.prog.cellsOf 9 = 1 := by kernel_rfl
  have c4 : Tryz.prog.cellsOf 4 = 1 := by kernel_rfl
  have c63 : Tryz.prog.cellsOf 63 = 2 := by kernel_rfl
  have c64 : Tryz.prog.cellsOf 64 = 1 := by kernel_rfl
  have c29 : Tryz.prog.cellsOf 29 = 17 := by kernel_rfl
  have c46 : Tryz.prog.cellsOf 46 = 1 := by kernel_rfl
  obtain ⟨xs, k, rfl, rfl, hl, hn, hi⟩ := DataW.trod_struct Tryz.underlying66 h
  have hn : xs.length = 9 := hn
  have h0 : DataW.trod enc Tryz.prog W base sp held k 61 ((cs.drop 0).take (Tryz.prog.cellsOf 61)) = xs[0]? := hi 0 _ rfl
  have h1 : DataW.trod enc Tryz.prog W base sp held k 9 ((cs.drop 1).take (Tryz.prog.cellsOf 9)) = xs[1]? := hi 1 _ rfl
  have h2 : DataW.trod enc Tryz.prog W base sp held k 4 ((cs.drop 2).take (Tryz.prog.cellsOf 4)) = xs[2]? := hi 2 _ rfl
  have h3 : DataW.trod enc Tryz.prog W base sp held k 63 ((cs.drop 3).take (Tryz.prog.cellsOf 63)) = xs[3]? := hi 3 _ rfl
  have h5 : DataW.trod enc Tryz.prog W base sp held k 64 ((cs.drop 5).take (Tryz.prog.cellsOf 64)) = xs[4]? := hi 4 _ rfl
  have h6 : DataW.trod enc Tryz.prog W base sp held k 4 ((cs.drop 6).take (Tryz.prog.cellsOf 4)) = xs[5]? := hi 5 _ rfl
  have h7 : DataW.trod enc Tryz.prog W base sp held k 63 ((cs.drop 7).take (Tryz.prog.cellsOf 63)) = xs[6]? := hi 6 _ rfl
  have h9 : DataW.trod enc Tryz.prog W base sp held k 29 ((cs.drop 9).take (Tryz.prog.cellsOf 29)) = xs[7]? := hi 7 _ rfl
  have h26 : DataW.trod enc Tryz.prog W base sp held k 46 ((cs.drop 26).take (Tryz.prog.cellsOf 46)) = xs[8]? := hi 8 _ rfl
  simp only [c61, c9, c4, c63, c64, c29, c46] at h0 h1 h2 h3 h5 h6 h7 h9 h26
  rw [List.getElem?_eq_getElem (by omega)] at h0 h1 h2 h3 h5 h6 h7 h9 h26
  obtain ⟨z, e0, _, _⟩ := DataW.trod_int Tryz.underlying61 h0
  obtain ⟨s, e1, _, _⟩ := DataW.trod_string Tryz.underlying9 h1
  obtain ⟨b2, e2, _⟩ := DataW.trod_bool Tryz.underlying4 h2
  obtain ⟨o, os, r3⟩ := open_ch h3
  obtain ⟨v5, w5, l5, e5, s5, r5⟩ := open_ns h5
  obtain ⟨b6, e6, _⟩ := DataW.trod_bool Tryz.underlying4 h6
  obtain ⟨t, ts, r7⟩ := open_ch h7
  obtain ⟨id, r9, l9, ok9⟩ := open_oid h9
  obtain ⟨v26, w26, bs, e26, s26, k26, r26⟩ := open_by h26
  refine ⟨⟨z, s.data.toList.map UInt8.toNat, b2, o, os, w5, l5, b6, t, ts, id, w26, bs⟩, ?_, by simp [Qu.ds, l9], ⟨s5, s26, k26, ok9⟩⟩
  have q0 : RelDs (imW W) [.int .u8 z] (cs.drop 0) := relDs_1 e0 (by simp only [RelD])
  have q1 : RelDs (imW W) [.str (s.data.toList.map UInt8.toNat)] (cs.drop 1) := relDs_1 e1 (by simp only [RelD]; exact ⟨s, rfl, rfl⟩)
  have q2 : RelDs (imW W) [.bool b2] (cs.drop 2) := relDs_1 e2 (by simp only [RelD])
  have q5 : RelDs (imW W) [w5] (cs.drop 5) := relDs_1 e5 r5
  have q6 : RelDs (imW W) [.bool b6] (cs.drop 6) := relDs_1 e6 (by simp only [RelD])
  have q26 : RelDs (imW W) [w26] (cs.drop 26) := relDs_1 e26 r26
  have m9 := relDs_cat (xs := oD id) (ys := [w26]) (o := 9) (relDs_take r9) (by rw [l9]; exact q26)
  have m7 := relDs_cat (xs := [.int .u32 t, .str ts]) (o := 7) (relDs_take r7) m9
  have m6 := relDs_cat (xs := [.bool b6]) (o := 6) q6 m7
  have m5 := relDs_cat (xs := [w5]) (o := 5) q5 m6
  have m3 := relDs_cat (xs := [.int .u32 o, .str os]) (o := 3) (relDs_take r3) m5
  have m2 := relDs_cat (xs := [.bool b2]) (o := 2) q2 m3
  have m1 := relDs_cat (xs := [.str (s.data.toList.map UInt8.toNat)]) (o := 1) q1 m2
  exact relDs_cat (xs := [.int .u8 z]) (o := 0) q0 m1
theorem open_qs {n : Nat} {cs : List Value} {y : DataW H × List MemPlace} (h : DataW.trod enc Tryz.prog W base sp held n 36 cs = some y) : ∃ (v : Value) (w : D) (l : List Qu), cs = [v] ∧ isSl Qu.ds w l ∧ (∀ q ∈ l, q.ok) ∧ RelD (imW W) w v := by
  rcases open_sl (sz := 27) (Q := Qu.ds) (R := Qu.ok) Tryz.underlying36 (by kernel_rfl) (by omega) h (fun _ _ _ h => open_qu h) with h0 | ⟨v, l, h1, h2, h3⟩
  · exact ⟨_, .nils, [], h0, .inl ⟨rfl, rfl⟩, (fun _ h => by cases h), by simp only [RelD]⟩
  · exact ⟨v, _, l, h1, .inr rfl, fun b hb => (h2 b hb).2, h3⟩
theorem open_po {n : Nat} {cs : List Value} {y : DataW H × List MemPlace} (h : DataW.trod enc Tryz.prog W base sp held n 52 cs = some y) : ∃ p : Po, RelDs (imW W) p.ds cs ∧ p.ds.length = 18 ∧ p.ok := by
  have c29 : Tryz.prog.cellsOf 29 = 17 := by kernel_rfl
  have c36 : Tryz.prog.cellsOf 36 = 1 := by kernel_rfl
  obtain ⟨xs, k, rfl, rfl, hl, hn, hi⟩ := DataW.trod_struct Tryz.underlying52 h
  have hn : xs.length = 2 := hn
  have h0 : DataW.trod enc Tryz.prog W base sp held k 29 ((cs.drop 0).take (Tryz.prog.cellsOf 29)) = xs[0]? := hi 0 _ rfl
  have h17 : DataW.trod enc Tryz.prog W base sp held k 36 ((cs.drop 17).take (Tryz.prog.cellsOf 36)) = xs[1]? := hi 1 _ rfl
  simp only [c29, c36] at h0 h17
  rw [List.getElem?_eq_getElem (by omega)] at h0 h17
  obtain ⟨id, r9, l9, ok9⟩ := open_oid h0
  obtain ⟨v, w, l, e, s, ok, r⟩ := open_qs h17
  refine ⟨⟨id, w, l⟩, ?_, by simp [Po.ds, l9], ⟨ok9, s, ok⟩⟩
  exact relDs_cat (xs := oD id) (ys := [w]) (o := 0) (relDs_take r9) (by rw [l9]; exact relDs_1 e r)
theorem open_mp {n : Nat} {cs : List Value} {y : DataW H × List MemPlace} (h : DataW.trod enc Tryz.prog W base sp held n 54 cs = some y) : ∃ p : Mp, RelDs (imW W) p.ds cs ∧ p.ds.length = 34 ∧ p.ok := by
  have c29 : Tryz.prog.cellsOf 29 = 17 := by kernel_rfl
  obtain ⟨xs, k, rfl, rfl, hl, hn, hi⟩ := DataW.trod_struct Tryz.underlying54 h
  have hn : xs.length = 2 := hn
  have h0 : DataW.trod enc Tryz.prog W base sp held k 29 ((cs.drop 0).take (Tryz.prog.cellsOf 29)) = xs[0]? := hi 0 _ rfl
  have h17 : DataW.trod enc Tryz.prog W base sp held k 29 ((cs.drop 17).take (Tryz.prog.cellsOf 29)) = xs[1]? := hi 1 _ rfl
  simp only [c29] at h0 h17
  rw [List.getElem?_eq_getElem (by omega)] at h0 h17
  obtain ⟨a, ra, la, oka⟩ := open_oid h0
  obtain ⟨b, rb, lb, okb⟩ := open_oid h17
  refine ⟨⟨a, b⟩, ?_, by simp [Mp.ds, la, lb], ⟨oka, okb⟩⟩
  exact relDs_cat (xs := oD a) (ys := oD b) (o := 0) (relDs_take ra) (by rw [la]; exact relDs_take rb)
theorem open_pos {n : Nat} {cs : List Value} {y : DataW H × List MemPlace} (h : DataW.trod enc Tryz.prog W base sp held n 22 cs = some y) : ∃ (v : Value) (w : D) (l : List Po), cs = [v] ∧ isSl Po.ds w l ∧ (∀ q ∈ l, q.ok) ∧ RelD (imW W) w v := by
  rcases open_sl (sz := 18) (Q := Po.ds) (R := Po.ok) Tryz.underlying22 (by kernel_rfl) (by omega) h (fun _ _ _ h => open_po h) with h0 | ⟨v, l, h1, h2, h3⟩
  · exact ⟨_, .nils, [], h0, .inl ⟨rfl, rfl⟩, (fun _ h => by cases h), by simp only [RelD]⟩
  · exact ⟨v, _, l, h1, .inr rfl, fun b hb => (h2 b hb).2, h3⟩
theorem open_mps {n : Nat} {cs : List Value} {y : DataW H × List MemPlace} (h : DataW.trod enc Tryz.prog W base sp held n 23 cs = some y) : ∃ (v : Value) (w : D) (l : List Mp), cs = [v] ∧ isSl Mp.ds w l ∧ (∀ q ∈ l, q.ok) ∧ RelD (imW W) w v := by
  rcases open_sl (sz := 34) (Q := Mp.ds) (R := Mp.ok) Tryz.underlying23 (by kernel_rfl) (by omega) h (fun _ _ _ h => open_mp h) with h0 | ⟨v, l, h1, h2, h3⟩
  · exact ⟨_, .nils, [], h0, .inl ⟨rfl, rfl⟩, (fun _ h => by cases h), by simp only [RelD]⟩
  · exact ⟨v, _, l, h1, .inr rfl, fun b hb => (h2 b hb).2, h3⟩
theorem open_re {n : Nat} {cs : List Value} {y : DataW H × List MemPlace} (h : DataW.trod enc Tryz.prog W base sp held n 25 cs = some y) : ∃ r : Re, RelDs (imW W) r.ds cs ∧ cs.length = 8 ∧ r.ok := by
  have c3 : Tryz.prog.cellsOf 3 = 1 := by kernel_rfl
  have c4 : Tryz.prog.cellsOf 4 = 1 := by kernel_rfl
  have c22 : Tryz.prog.cellsOf 22 = 1 := by kernel_rfl
  have c23 : Tryz.prog.cellsOf 23 = 1 := by kernel_rfl
  have c25 : Tryz.prog.cellsOf 25 = 8 := by kernel_rfl
  obtain ⟨xs, k, rfl, rfl, hl, hn, hi⟩ := DataW.trod_struct Tryz.underlying25 h
  rw [c25] at hl
  have hn : xs.length = 8 := hn
  have h0 : DataW.trod enc Tryz.prog W base sp held k 4 ((cs.drop 0).take (Tryz.prog.cellsOf 4)) = xs[0]? := hi 0 _ rfl
  have h1 : DataW.trod enc Tryz.prog W base sp held k 4 ((cs.drop 1).take (Tryz.prog.cellsOf 4)) = xs[1]? := hi 1 _ rfl
  have h2 : DataW.trod enc Tryz.prog W base sp held k 22 ((cs.drop 2).take (Tryz.prog.cellsOf 22)) = xs[2]? := hi 2 _ rfl
  have h3 : DataW.trod enc Tryz.prog W base sp held k 4 ((cs.drop 3).take (Tryz.prog.cellsOf 4)) = xs[3]? := hi 3 _ rfl
  have h4 : DataW.trod enc Tryz.prog W base sp held k 23 ((cs.drop 4).take (Tryz.prog.cellsOf 23)) = xs[4]? := hi 4 _ rfl
  have h5 : DataW.trod enc Tryz.prog W base sp held k 3 ((cs.drop 5).take (Tryz.prog.cellsOf 3)) = xs[5]? := hi 5 _ rfl
  have h6 : DataW.trod enc Tryz.prog W base sp held k 3 ((cs.drop 6).take (Tryz.prog.cellsOf 3)) = xs[6]? := hi 6 _ rfl
  have h7 : DataW.trod enc Tryz.prog W base sp held k 3 ((cs.drop 7).take (Tryz.prog.cellsOf 3)) = xs[7]? := hi 7 _ rfl
  simp only [c3, c4, c22, c23] at h0 h1 h2 h3 h4 h5 h6 h7
  rw [List.getElem?_eq_getElem (by omega)] at h0 h1 h2 h3 h4 h5 h6 h7
  obtain ⟨b0, e0, _⟩ := DataW.trod_bool Tryz.underlying4 h0
  obtain ⟨b1, e1, _⟩ := DataW.trod_bool Tryz.underlying4 h1
  obtain ⟨v2, w2, l2, e2, s2, k2, r2⟩ := open_pos h2
  obtain ⟨b3, e3, _⟩ := DataW.trod_bool Tryz.underlying4 h3
  obtain ⟨v4, w4, l4, e4, s4, k4, r4⟩ := open_mps h4
  obtain ⟨z5, e5, _, _⟩ := DataW.trod_int Tryz.underlying3 h5
  obtain ⟨z6, e6, _, _⟩ := DataW.trod_int Tryz.underlying3 h6
  obtain ⟨z7, e7, _, _⟩ := DataW.trod_int Tryz.underlying3 h7
  refine ⟨⟨b0, b1, w2, l2, b3, w4, l4, z5, z6, z7⟩, ?_, hl, ⟨s2, s4, k2, k4⟩⟩
  have q0 : RelDs (imW W) [.bool b0] (cs.drop 0) := relDs_1 e0 (by simp only [RelD])
  have q1 : RelDs (imW W) [.bool b1] (cs.drop 1) := relDs_1 e1 (by simp only [RelD])
  have q2 : RelDs (imW W) [w2] (cs.drop 2) := relDs_1 e2 r2
  have q3 : RelDs (imW W) [.bool b3] (cs.drop 3) := relDs_1 e3 (by simp only [RelD])
  have q4 : RelDs (imW W) [w4] (cs.drop 4) := relDs_1 e4 r4
  have q5 : RelDs (imW W) [.int .i64 z5] (cs.drop 5) := relDs_1 e5 (by simp only [RelD])
  have q6 : RelDs (imW W) [.int .i64 z6] (cs.drop 6) := relDs_1 e6 (by simp only [RelD])
  have q7 : RelDs (imW W) [.int .i64 z7] (cs.drop 7) := relDs_1 e7 (by simp only [RelD])
  have m6 := relDs_cat (xs := [.int .i64 z6]) (o := 6) q6 q7
  have m5 := relDs_cat (xs := [.int .i64 z5]) (o := 5) q5 m6
  have m4 := relDs_cat (xs := [w4]) (o := 4) q4 m5
  have m3 := relDs_cat (xs := [.bool b3]) (o := 3) q3 m4
  have m2 := relDs_cat (xs := [w2]) (o := 2) q2 m3
  have m1 := relDs_cat (xs := [.bool b1]) (o := 1) q1 m2
  exact relDs_cat (xs := [.bool b0]) (o := 0) q0 m1
end
end Mini
end Go.Proofs.YtjnghfhccjogeaaGreatDoor
namespace Go.Proofs.YtjnghfhccjogeaaGreatDoor
namespace Mini
open Go Go.ChangeShapes Go.WideShapes Go.ChangeAt Go.RowKit
theorem own : ownKnob Tryz.prog.godebug = none := by kernel_rfl
def val1 : DataW Unit → Value
  | .lit (.int k n) => .int k n
  | .lit (.bool b) => .bool b
  | .lit (.string s) => .string ⟨s.toArray⟩
  | _ => .nilIface
def row1 : DataW Unit → List Value
  | .agg ds => ds.map val1
  | d => [val1 d]
def row2 : DataW Unit → List Value
  | .agg ds => ds.flatMap row1
  | _ => []
def putVar (h : Array Obj) (g : Nat) (cs : List Value) : Array Obj := h.modify g fun
      | .cells _ t frozen => .cells cs.toArray t frozen
      | o => o
def errText (d : DataW Unit) : Value :=
  match d with
  | .iface _ (.ptr (.agg [x])) => val1 x
  | _ => .nilIface
noncomputable def laidWorld (os : Os) : World :=
  let w := World.holding Tryz.prog os ⟨#[.cells #[errText Rows.laid_strconv_ErrSyntax] 385, .cells #[errText Rows.laid_strconv_ErrRange] 385], #[], []⟩
  let h := putVar w.heap 0 (row1 Rows.laid_vidimus_qualifiers_sequence)
  let h := putVar h 1 (row1 Rows.laid_vidimus_qualifiers_oid)
  let h := putVar h 2 (row1 Rows.laid_vidimus_qualifiers_ia5)
  let h := putVar h 4 (row1 Rows.laid_unicode_utf8_first)
  let h := putVar h 5 (row2 Rows.laid_unicode_utf8_acceptRanges)
  let h := putVar h 6 (row1 Rows.laid_vidimus_qualifiers_integer)
  let h := putVar h 7 (row1 Rows.laid_internal_strconv_uint64pow10)
  let h := putVar h 8 (row1 Rows.laid_vidimus_qualifiers_shown)
  let h := putVar h 9 [.iface 383 (.pointer (some ⟨Tryz.prog.low, 0, none⟩))]
  let h := putVar h 10 [.iface 383 (.pointer (some ⟨Tryz.prog.low + 1, 0, none⟩))]
  let h := putVar h 11 (row1 Rows.laid_math_bits_deBruijn32tab)
  let h := putVar h 12 (row1 Rows.laid_math_bits_deBruijn64tab)
  { w with heap := h }
theorem laid_met (os : Os) (args : Array Value) : laidMet Tryz.prog Rows.recordsSameRow.laid ((laidWorld os).forCall (fun _ _ => 0) ⟨#[], args, []⟩).memory :=
  laidMet_of_run' 8 (by kernel_rfl) (by kernel_rfl)
end Mini
end Go.Proofs.YtjnghfhccjogeaaGreatDoor
