/-
  JournalsCheck: texts of the proof, part 25.
-/
import Derived.Test.YtgjlofpfbhioaaaGreatDoorNX23
import Derived.WalkKit
namespace Go.Proofs.YtgjlofpfbhioaaaGreatDoor
namespace Mini
open Go Go.ChangeShapes Go.WideShapes Go.ChangeAt Go.RowKit Go.Deep
theorem laidOut : laidOutB Tryz.prog = true := by kernel_rfl
theorem calls_true {X : Ctx} {m : Int} (hX : CtxOk Tryz.prog X) {n : Nat} {f : FuncId} {vs : List V} {W : World} {us : List Value} (hg : X.glob = glob0 m) (hG : Globs m W) (h : vcallN X n f vs = some (.c (.d (.bool true)))) (hr : RelVs (mm (imW W)) vs us) (hl : vs.length = us.length) :
    Calls Tryz.prog f us.toArray W fun e W' => e = .returned (.bool true) ∧ Below W.heap.size W W' := by
  refine (vcallN_ok hX h (imW W) W us (by rw [hg]; exact hG) (fun _ _ h => h) hr hl).mono fun e W' hh => ?_
  obtain ⟨v', I', rfl, h1, _, _, _, h2, h3, h4, h5, h6⟩ := hh
  simp only [RelV, RelC, RelD] at h1
  subst h1
  exact ⟨rfl, h2, h3, h4, h5, h6⟩
set_option maxRecDepth 100000 in
theorem post_args {H : Type} {enc : TypeId × Value → H} {f : Func} {s : ChangeSpec} {apart fresh handsOn again : Bool} {W W' : World} {args : Array Value} {v : Value} {ds : List (DataW H)} {before : List MemPlace}
    (hW : DataW.Whole enc Tryz.prog f.params.toList s.vars apart W args.toList ds [] before)
    (hpar : f.params.toList.all (fun t => Tryz.prog.readableRec t && decide (t < Tryz.prog.types.size)) = true)
    (hsv : s.vars = []) (hsd : (s.fn H ds).args = ds) (hsv2 : (s.fn H ds).vars = [])
    (hres : ∀ (b : Nat) (sp : Nat → Bool) (hd : Bool), DataW.TrodAll enc Tryz.prog W' b sp hd f.resultTypes.toList (v.resultList f.resultTypes.size) (s.fn H ds).results [])
    (hb : Below W.heap.size W W')
    (hok : ∀ (j : Nat) (t : TypeId) (r : Value), f.resultTypes[j]? = some t → (v.resultList f.resultTypes.size)[j]? = some r → Value.okWide Tryz.prog W' .any 0 t r) :
    s.post enc Tryz.prog f apart fresh handsOn again W args v W' := by
  have hlt : ∀ p ∈ before, p.block < W.heap.size := fun p hp => hW.lt p hp
  have hW0 := hW
  obtain ⟨pa, pv, hA, hV, hps, hz, hn⟩ := hW
  rw [hsv] at hV
  obtain ⟨_, rfl⟩ := trodVars_none hV
  have hargs : ∀ sp : Nat → Bool, (∀ p ∈ before, sp p.block = true) → DataW.TrodAll enc Tryz.prog W' 0 sp true f.params.toList args.toList ds pa := by
    intro sp hsp
    rw [hps, List.append_nil] at hsp hlt
    have key : ∀ (ts : List TypeId) (vs : List Value) (ds : List (DataW H)) (pa : List MemPlace), ts.all (fun t => Tryz.prog.readableRec t && decide (t < Tryz.prog.types.size)) = true → DataW.TrodAll enc Tryz.prog W 0 (fun _ => true) true ts vs ds pa → (∀ p ∈ pa, sp p.block = true) → (∀ p ∈ pa, p.block < W.heap.size) → DataW.TrodAll enc Tryz.prog W' 0 sp true ts vs ds pa := by
      intro ts
      induction ts with
      | nil =>
        intro vs ds pa _ h _ _
        cases vs with
        | nil => cases ds with
          | nil => exact h
          | cons _ _ => exact h.elim
        | cons _ _ => cases ds <;> exact h.elim
      | cons t ts ih =>
        intro vs ds pa hall h h1 h2
        cases vs with
        | nil => cases ds <;> exact h.elim
        | cons v vs =>
          cases ds with
          | nil => exact h.elim
          | cons d ds =>
            obtain ⟨p, q, ha, hb', rfl⟩ := h
            rw [List.all_cons, Bool.and_eq_true, Bool.and_eq_true] at hall
            refine ⟨p, q, ?_, ih vs ds q hall.2 hb' (fun x hx => h1 x (List.mem_append_right _ hx)) (fun x hx => h2 x (List.mem_append_right _ hx)), rfl⟩
            exact WideElems.Trod_stays laidOut hall.1.1 (of_decide_eq_true hall.1.2) ha (fun x hx => hb.same (h2 x (List.mem_append_left _ hx))) (fun x hx => h1 x (List.mem_append_left _ hx))
    exact key _ _ _ _ hpar hA hsp hlt
  have hsd' : (s.fn H (ds ++ [])).args = ds := by rw [List.append_nil]; exact hsd
  have hres' : ∀ (b : Nat) (sp : Nat → Bool) (hd : Bool), DataW.TrodAll enc Tryz.prog W' b sp hd f.resultTypes.toList (v.resultList f.resultTypes.size) (s.fn H (ds ++ [])).results [] := by rw [List.append_nil]; exact hres
  have hvars : ∀ sp : Nat → Bool, DataW.TrodVars enc Tryz.prog W' sp s.vars (s.fn H (ds ++ [])).vars [] := by
    intro sp
    rw [hsv, List.append_nil, hsv2]
    rfl
  refine ⟨ds, [], before, [], pa, [], hW0, hres' _ _ _, by rw [hsd']; exact hargs _ (fun p hp => by simpa using hlt p hp), hvars _, hb.frame _, fun _ => ?_⟩
  refine ⟨hok, _, _, ([] ++ pa) ++ [], ⟨[] ++ pa, [], trodAll_append (hargs _ (fun _ _ => rfl)) (hres' _ _ _), hvars _, rfl, ?_, ?_⟩, ?_⟩
  · intro b off hp
    have hin : MemPlace.cell b off ∈ before := by rw [hps]; simpa using hp
    have hlb := hlt _ hin
    have := hz b off hin
    simp only [World.frozen?] at this ⊢
    rw [hb.block b (by simpa [MemPlace.block] using hlb)]
    exact this
  · intro ha
    have := hn ha
    rw [hps] at this
    simpa using this
  · intro p hp _
    rw [hps]
    simpa using hp
section
variable {H : Type} {enc : TypeId × Value → H} {W : World} {base : Nat} {sp : Nat → Bool} {held : Bool}
theorem ints_list {k : IntKind} : ∀ {cs : List Value}, (∀ (i : Nat), i < cs.length → ∃ z : Int, (cs.drop i).take 1 = [.int k z] ∧ (Lit.int k z).wf = true) → ∃ zs : List Int, cs = zs.map (Value.int k) ∧ ∀ z ∈ zs, (Lit.int k z).wf = true
  | [], _ => ⟨[], rfl, fun _ h => by cases h⟩
  | c :: cs, h => by
    obtain ⟨z, h1, h2⟩ := h 0 (by simp)
    obtain ⟨zs, h3, h4⟩ := ints_list (cs := cs) fun i hi => by simpa using h (i + 1) (by simpa using hi)
    simp at h1
    subst h1
    refine ⟨z :: zs, by rw [h3]; rfl, fun x hx => ?_⟩
    rcases List.mem_cons.1 hx with rfl | hx
    · exact h2
    · exact h4 x hx
theorem open_oid {n : Nat} {cs : List Value} {y : DataW H × List MemPlace} (h : DataW.trod enc Tryz.prog W base sp held n 60 cs = some y) : ∃ o : Oid, RelDs (imW W) (oD o) cs ∧ (oD o).length = 17 ∧ wfO o := by
  have c5 : Tryz.prog.cellsOf 5 = 1 := by kernel_rfl
  have c58 : Tryz.prog.cellsOf 58 = 16 := by kernel_rfl
  have c60 : Tryz.prog.cellsOf 60 = 17 := by kernel_rfl
  obtain ⟨xs, k, rfl, rfl, hl, hn, hi⟩ := DataW.trod_struct Tryz.underlying60 h
  rw [c60] at hl
  have hn : xs.length = 2 := hn
  have h0 : DataW.trod enc Tryz.prog W base sp held k 5 ((cs.drop 0).take (Tryz.prog.cellsOf 5)) = xs[0]? := hi 0 _ rfl
  have h1 : DataW.trod enc Tryz.prog W base sp held k 58 ((cs.drop 1).take (Tryz.prog.cellsOf 58)) = xs[1]? := hi 1 _ rfl
  simp only [c5, c58] at h0 h1
  rw [List.getElem?_eq_getElem (by omega)] at h0 h1
  obtain ⟨z, e0, _, w0⟩ := DataW.trod_int Tryz.underlying5 h0
  obtain ⟨ys, k', rfl, _, hl1, hn1, hi1⟩ := DataW.trod_array Tryz.underlying58 h1
  obtain ⟨c, cs, rfl⟩ : ∃ c cs', cs = c :: cs' := by
    cases cs with
    | nil => simp at hl
    | cons c cs => exact ⟨c, cs, rfl⟩
  simp at e0
  subst e0
  have hl2 : cs.length = 16 := by simpa using hl
  have e1 : ((Value.int IntKind.u8 z :: cs).drop 1).take 16 = cs := by
    rw [List.drop_succ_cons, List.drop_zero, List.take_of_length_le (by omega)]
  obtain ⟨zs, e2, w2⟩ := ints_list (k := .u32) (cs := cs) fun i hi => by
    have h2 := hi1 i (by omega)
    rw [e1, (show Tryz.prog.cellsOf 57 = 1 from by kernel_rfl), Nat.mul_one] at h2
    rw [List.getElem?_eq_getElem (by omega)] at h2
    obtain ⟨z, e3, _, w3⟩ := DataW.trod_int Tryz.underlying57 h2
    exact ⟨z, e3, w3⟩
  subst e2
  have hb := bounds_u8 w0
  refine ⟨(z.toNat, zs.map Int.toNat), ?_, by simpa [oD] using hl2, ⟨by omega, by simpa using hl2, fun x hx => ?_⟩⟩
  · simp only [oD, RelDs, RelD]
    refine ⟨by rw [Int.toNat_of_nonneg hb.1], ?_⟩
    rw [RelDs.iff]
    intro j d hd
    rw [List.map_map, List.getElem?_map] at hd
    obtain ⟨x, hx, rfl⟩ := Option.map_eq_some_iff.1 hd
    have hx2 := bounds_u32 (w2 x (List.mem_of_getElem? hx))
    refine ⟨_, by rw [List.getElem?_map, hx]; rfl, ?_⟩
    simp only [Function.comp, u32D, RelD]
    rw [Int.toNat_of_nonneg hx2.1]
  · obtain ⟨x', hx', rfl⟩ := List.mem_map.1 hx
    have := bounds_u32 (w2 x' hx')
    omega
theorem open_set {n : Nat} {cs : List Value} {y : DataW H × List MemPlace} (h : DataW.trod enc Tryz.prog W base sp held n 22 cs = some y) : ∃ (v : Value) (w : D) (l : List Oid), cs = [v] ∧ isSet w l ∧ wfS l ∧ RelD (imW W) w v := by
  rcases open_sl (sz := 17) (Q := oD) (R := wfO) Tryz.underlying22 (by kernel_rfl) (by omega) h (fun n cs' y h => open_oid h) with h0 | ⟨v, l, h1, h2, h3⟩
  · exact ⟨_, .nils, [], h0, .inl ⟨rfl, rfl⟩, (fun _ h => by cases h), by simp only [RelD]⟩
  · exact ⟨v, slO l, l, h1, .inr rfl, fun o ho => (h2 o ho).2, h3⟩
theorem list_five {α : Type} : ∀ {l : List α}, l.length = 5 → ∃ a b c d e, l = [a, b, c, d, e]
  | [a, b, c, d, e], _ => ⟨a, b, c, d, e, rfl⟩
theorem rel_agg {I : Imm} {ds : List D} {v : Value} (h : RelDs I ds v.cells.toList) (hl : v.cells.toList.length = ds.length) (h2 : ds.length ≠ 1) : RelV (mm I) (.agg (ds.map .d)) v := by
  cases v with
  | agg arr =>
    simp only [RelV]
    refine ⟨arr, rfl, ?_, RelCs.of_d.2 h⟩
    rw [List.length_map, ← hl]; rfl
  | _ => exact absurd hl.symm h2
end
end Mini
end Go.Proofs.YtgjlofpfbhioaaaGreatDoor
