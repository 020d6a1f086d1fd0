/-
  JournalsReplay: texts of the proof, part 18.
-/
import Derived.Test.YtgjlofpfbhioaaaGreatDoorMX16
import Derived.KernelRfl
namespace Go.Proofs.YtgjlofpfbhioaaaGreatDoor
namespace Mini
open Go
def fnsZ (f : FuncId) : Option Fn := match fnsR f with
  | some F => some F
  | none => fnsX f
theorem fnsZ_ok (f : FuncId) (F : Fn) (h : fnsZ f = some F) : Form f F := by
  unfold fnsZ at h
  split at h
  · rename_i G hG
    cases h
    exact fnsR_ok f _ hG
  · exact fnsX_ok f F h
def XR (m : Int) : Ctx := ⟨fnsZ, primJ, hprim0, fun _ _ _ => none, glob0 m⟩
theorem XR_ok (m : Int) : CtxOk Tryz.prog (XR m) := ⟨fnsZ_ok, fun _ _ _ h => primJ_ok h, fun _ _ _ _ _ h => hprim0_ok h⟩
theorem fns_apartZ {f : FuncId} {F : Fn} (h : fnsR f = some F) : fnsX f = none := by
  unfold fnsR at h
  split at h <;> first | rfl | cases h
theorem XJ_leR (m : Int) : CtxLe (XJ m) (XR m) where
  fns := fun {f F} h => by
    show fnsZ f = some F
    unfold fnsZ
    cases hR : fnsR f with
    | none => exact h
    | some G => exact absurd (show fnsX f = some F from h) (by rw [fns_apartZ hR]; exact fun h => by cases h)
  prim := fun h => h
  npr := fun _ _ h => h
  hprim := fun {f vs H r} h1 h2 => by
    have h2' : hprim0 f vs H = some r := h2
    have h3 : f = 138 := by
      unfold hprim0 at h2'
      split at h2'
      · exact rfl
      · cases h2'
    rcases h3 with rfl <;> exact ⟨rfl, h2, fun vs h => h⟩
  bprim := fun h => by cases h
  glob := rfl
def XOr (m : Int) (X : Ctx) : Prop := CtxLe (XR m) X
theorem XOr.j {m : Int} {X : Ctx} (h : XOr m X) : XOj m X := CtxLe.trans (XJ_leR m) h
theorem XROr (m : Int) : XOr m (XR m) := CtxLe.refl _
theorem primJ_noneR {k : FuncId} {F : Fn} (hk : fnsZ k = some F) (vs : List V) : primJ k vs = none := by
  unfold primJ
  split
  · cases hk
  · unfold fnsZ at hk
    split at hk
    · rename_i h
      unfold fnsR at h
      split at h <;> first | rfl | cases h
    · have := primJ_none hk vs
      unfold primJ at this
      split at this
      · exact absurd rfl ‹_›
      · exact this
theorem XOr.fn {m : Int} {X : Ctx} (h : XOr m X) {k : FuncId} {F : Fn} (hk : fnsZ k = some F) {n : Nat} {args : List V} {H : Heap} : callN X (n + 1) (.d (.fn k [] [])) args H = runFn (zenv X n) n F args H := callN_fn (CtxLe.fns (X := XR m) h hk)
theorem XOr.vc {m : Int} {X : Ctx} (h : XOr m X) {k : FuncId} {F : Fn} (hk : fnsZ k = some F) {n : Nat} {vs : List V} {r : V} (hr : vcallN X n k vs = some r) : (zenv X n).vcall k vs = some r := zenv_vcall (CtxLe.npr (X := XR m) h hk vs (primJ_noneR hk vs)) hr
theorem XOr.run {m : Int} {X : Ctx} (h : XOr m X) {n n' : Nat} {f : FuncId} {vs : List V} {r : V} (hr : vcallN (XR m) n f vs = some r) (hn : n ≤ n') : vcallN X n' f vs = some r := vcallN_le h hn hr
end Mini
end Go.Proofs.YtgjlofpfbhioaaaGreatDoor
namespace Go.Proofs.YtgjlofpfbhioaaaGreatDoor
namespace Mini
open Go
variable {m : Int} {X : Ctx}
def arcsO (o : Oid) : List Nat := o.2.take o.1
theorem arcsO_len {o : Oid} (h : wfO o) : (arcsO o).length = min o.1 16 := by simp [arcsO, h.2.1]
theorem mapO_d (H : Heap) (k : Nat) : ∀ ds : List D, mapO (deepC H k) (ds.map .d) = some ds
  | [] => rfl
  | x :: ds => by
    have h1 : deepC H k (.d x) = some x := by cases k <;> rfl
    simp only [List.map_cons, mapO, h1, mapO_d H k ds]
theorem oC_arcs {o : Oid} (h : wfO o) : ((oC o).drop 1).take (min o.1 16 * 1) = ((arcsO o).map u32D).map .d := by
  have : (oC o).drop 1 = (o.2.map u32D).map .d := rfl
  rw [this, Nat.mul_one, arcsO, ← List.map_take, ← List.map_take]
  congr 2
  rw [← h.2.1, List.take_eq_take_iff]
  omega
theorem deep_arcs {H : Heap} {id : Nat} {o : Oid} {f : Bool} {c : Option Nat} (h : wfO o) (hH : ob? H id = some (.cells (oC o) 0 f)) : deepC H deepMax (.os id 0 1 (min o.1 16) 1 c) = some (.sl ((arcsO o).map u32D) (min o.1 16)) := by
  have hl : 1 + min o.1 16 * 1 ≤ (oC o).length := by rw [oC_len h]; omega
  simp only [deepMax, deepC, hH, if_true, if_pos hl, oC_arcs h, mapO_d, Option.map_some]
theorem f86 (hX : XOk m X) {N : Nat} (hN : 1 ≤ N) {o : Oid} (h : wfO o) {H : Heap} {id : Nat} {f : Bool} (hH : H[id]? = some (.cells (oC o) 0 f)) : callN X N (.d (.fn 86 [] [])) [.c (.ptr id 0 0)] H = some (.c (.os id 0 1 (min o.1 16) 1 (some 16)), H) := by
  obtain ⟨N, rfl⟩ : ∃ M, N = M + 1 := ⟨N - 1, by omega⟩
  rw [hX.fn (F := fn86) rfl]
  refine (rf_fin _ _ _ _ _ _ _ _ _ (by rfl)).trans ?_
  have h0 := oC_n (o := o)
  have h1 : IntKind.i64.wrap (o.1 : Int) = (o.1 : Int) := wrap_nat (by have := h.1; omega)
  have h2 : (if (16 : Int) < (o.1 : Int) then (16 : Int) else (o.1 : Int)) = ((min o.1 16 : Nat) : Int) := by
    by_cases c : (16 : Int) < (o.1 : Int)
    · rw [if_pos c]; omega
    · rw [if_neg c]; omega
  have hl := oC_len h
  have h3 : min o.1 16 ≤ 16 := Nat.min_le_right _ _
  simp only [hH, h0, h1, h2, h3, hl, optNat, Option.map_none, Nat.zero_le, Nat.le_refl, Nat.sub_zero, evs, Nat.reduceAdd, Nat.reduceSub]
def cmpO (a b : Oid) : Int := cmpL (arcsO a) (arcsO b)
theorem f54 (hX : XOk m X) {N : Nat} (hN : 30 ≤ N) {a b : Oid} (ha : wfO a) (hb : wfO b) : vcallN X N 54 [.agg (oC a), .agg (oC b)] = some (i64 (cmpO a b)) := by
  obtain ⟨N, rfl⟩ : ∃ M, N = M + 1 := ⟨N - 1, by omega⟩
  refine vcall_of (r := i64 (cmpO a b)) (H := [.cells (oC a) 0 false, .cells (oC b) 0 false]) ?_ rfl
  rw [hX.fn (F := fn54) rfl]
  refine (rf_fin _ _ _ _ _ _ _ _ _ (by rfl)).trans ?_
  have hla := arcsO_len ha
  have hlb := arcsO_len hb
  have h1 := f86 hX (N := N) (by omega) ha (H := [.cells (oC a) 0 false, .cells (oC b) 0 false]) (id := 0) rfl
  have h2 := f86 hX (N := N) (by omega) hb (H := [.cells (oC a) 0 false, .cells (oC b) 0 false]) (id := 1) rfl
  have h3 := deep_arcs ha (H := [.cells (oC a) 0 false, .cells (oC b) 0 false]) (id := 0) (c := some 16) rfl
  have h4 := deep_arcs hb (H := [.cells (oC a) 0 false, .cells (oC b) 0 false]) (id := 1) (c := some 16) rfl
  have h5 := hX.vc (k := 85) (F := fn85) rfl (f85 hX (N := N) (a := arcsO a) (b := arcsO b) (by omega) (by omega))
  simp only [slU, hla, hlb, i64] at h5
  simp only [h1, h2, h3, h4, h5, cmpO, List.map_cons, List.map_nil, evs, Nat.reduceAdd, Nat.reduceSub]
end Mini
end Go.Proofs.YtgjlofpfbhioaaaGreatDoor
namespace Go.Proofs.YtgjlofpfbhioaaaGreatDoor
namespace Mini
open Go
variable {m : Int} {X : Ctx}
theorem iter_find {js : Option (List Nat)} {hl : Nat} {body : St → Option (Ex × St)} (p : Nat → Prop) [DecidablePred p] (n : Nat) (R : Nat → St) {b : Nat} {s1 : St} {Q : Nat → St → Prop} {fuel : Nat} (hf : n < fuel)
    (hround : ∀ j, j < n → ¬ p j → ∃ s', body (R j) = some (.nrm, s') ∧ tidy hl js s' = R (j + 1))
    (hend : body (R n) = some (.exit b, s1)) (hhit : ∀ k, k < n → p k → ∃ s', body (R k) = some (.ret, s') ∧ Q k s') :
    ((∀ j, j < n → ¬ p j) ∧ iter js hl body fuel (R 0) = some (.exit b, s1)) ∨ ∃ k s', k < n ∧ p k ∧ (∀ j, j < k → ¬ p j) ∧ Q k s' ∧ iter js hl body fuel (R 0) = some (.ret, s') := by
  rcases first_lt p n with h | ⟨k, h1, h2, h3⟩
  · refine .inl ⟨h, iter_to R (by simp) n 0 fuel (fun j _ hj => hround j (by omega) (h j (by omega))) (by rw [Nat.zero_add]; exact hend) hf⟩
  · obtain ⟨s', h4, h5⟩ := hhit k h1 h2
    exact .inr ⟨k, s', h1, h2, h3, h5, iter_to R (by simp) k 0 fuel (fun j _ hj => hround j (by omega) (h3 j (by omega))) (by rw [Nat.zero_add]; exact h4) (by omega)⟩
def firstE (f : Nat → Nat) : Nat → Nat
  | 0 => 0
  | n + 1 => if firstE f n ≠ 0 then firstE f n else f n
theorem firstE_none (f : Nat → Nat) : ∀ n, (∀ j, j < n → ¬ f j ≠ 0) → firstE f n = 0
  | 0, _ => rfl
  | n + 1, h => by
    rw [firstE, firstE_none f n (fun j hj => h j (by omega)), if_neg (by simp)]
    exact Decidable.not_not.1 (h n (by omega))
theorem firstE_hit (f : Nat → Nat) {k : Nat} (hk : f k ≠ 0) (h : ∀ j, j < k → ¬ f j ≠ 0) : ∀ n, k < n → firstE f n = f k
  | 0, h0 => absurd h0 (Nat.not_lt_zero k)
  | n + 1, h0 => by
    rcases Nat.lt_succ_iff_lt_or_eq.1 h0 with h1 | rfl
    · rw [firstE, firstE_hit f hk h n h1, if_pos hk]
    · rw [firstE, firstE_none f k h, if_neg (by simp)]
def o0 : Oid := (0, List.replicate 16 0)
def slO (l : List Oid) : D := .sl (l.flatMap oD) l.length
def isSet (w : D) (l : List Oid) : Prop := w = .nils ∧ l = [] ∨ w = slO l
def wfS (l : List Oid) : Prop := ∀ o ∈ l, wfO o
theorem wfS.at {l : List Oid} (h : wfS l) {i : Nat} (hi : i < l.length) : wfO (l.getD i o0) := by
  rw [List.getD_eq_getElem?_getD, List.getElem?_eq_getElem hi]
  exact h _ (List.getElem_mem hi)
theorem isSet.len {w : D} {l : List Oid} (h : isSet w l) : lenc (.c (.d w)) = some (.c (.d (.int .i64 (l.length : Int))), []) := by
  rcases h with ⟨rfl, rfl⟩ | rfl <;> rfl
theorem flatO_len {l : List Oid} (h : wfS l) : (l.flatMap oD).length = l.length * 17 := by
  induction l with
  | nil => rfl
  | cons o l ih => rw [List.flatMap_cons, List.length_append, oD_len (h o List.mem_cons_self), ih (fun x hx => h x (List.mem_cons_of_mem _ hx)), List.length_cons]; omega
theorem flatO_at : ∀ {l : List Oid} (_ : wfS l) {i : Nat} (_ : i < l.length), ((l.flatMap oD).drop (i * 17)).take 17 = oD (l.getD i o0)
  | o :: l, h, 0, _ => by
    rw [List.flatMap_cons, Nat.zero_mul, List.drop_zero, List.take_append_of_le_length (by rw [oD_len (h o List.mem_cons_self)]; exact Nat.le_refl _), List.take_of_length_le (by rw [oD_len (h o List.mem_cons_self)]; exact Nat.le_refl _)]
    rfl
  | o :: l, h, i + 1, hi => by
    have h1 := oD_len (h o List.mem_cons_self)
    have : (i + 1) * 17 = (oD o).length + i * 17 := by rw [h1]; omega
    rw [List.flatMap_cons, this, ← List.drop_drop, List.drop_left]
    exact flatO_at (fun x hx => h x (List.mem_cons_of_mem _ hx)) (by simpa using hi)
theorem isSet.at {w : D} {l : List Oid} (h : isSet w l) (hl : wfS l) {i : Nat} (hi : i < l.length) : ixac 17 i (.c (.d w)) = some (.c (.d (.ip ((l.flatMap oD).drop (i * 17)))), []) := by
  rcases h with ⟨rfl, rfl⟩ | rfl
  · cases hi
  · rw [slO, ixac, if_pos ⟨hi, by rw [flatO_len hl]; omega⟩]
theorem isSet.elems {w : D} {l : List Oid} (h : isSet w l) (hl : wfS l) (H : Heap) : elems H 17 (.c (.d w)) = some (l.length, (l.flatMap oD).map .d) := by
  rcases h with ⟨rfl, rfl⟩ | rfl
  · rfl
  · simp only [slO, Mini.elems, if_pos (flatO_len hl)]
def errAt (l : List Oid) (i : Nat) : Nat :=
  if chkO (l.getD i o0) ≠ 0 then chkO (l.getD i o0)
  else if i = 0 then 0
  else if cmpO (l.getD (i - 1) o0) (l.getD i o0) = 0 then 14
  else if cmpO (l.getD (i - 1) o0) (l.getD i o0) > 0 then 13 else 0
def chkS (l : List Oid) : Nat := if 256 < l.length then 3 else firstE (errAt l) l.length
abbrev R19 (w : D) (l : List Oid) (i : Nat) : List V := [.c (.d w), .any, .any, .any, .any, .any, .any, .c (.d w), i64 (l.length : Int), i64 (i : Int), .any, .any, .any, .any, .any]
theorem f19 (hX : XOk m X) {N : Nat} (hN : 300 ≤ N) {w : D} {l : List Oid} (hw : isSet w l) (hl : wfS l) (hlen : l.length < 1000000) : vcallN X N 19 [.c (.d w)] = some (i64 (chkS l)) := by
  obtain ⟨N, rfl⟩ : ∃ M, N = M + 1 := ⟨N - 1, by omega⟩
  have hF : fnsA 19 = some fn19' := rfl
  suffices h : ∃ H, callN X (N + 1) (.d (.fn 19 [] [])) [.c (.d w)] [] = some (i64 (chkS l), H) by
    obtain ⟨H, h⟩ := h
    exact vcall_of h rfl
  rw [hX.fn hF]
  have hlw := hw.len
  by_cases c0 : (l.length : Int) > 256
  · refine ⟨[], (rf_fin _ _ _ _ _ _ _ _ _ (by rfl)).trans ?_⟩
    have : chkS l = 3 := by unfold chkS; rw [if_pos (by omega)]
    simp only [hlw, c0, this, Int.cast_ofNat_Int, ↓sp_len, evs, Nat.reduceSub]
  have hd : ∀ o : Oid, List.map C.d (oD o) = oC o := fun _ => rfl
  have hm : ∀ (H : Heap) (o : Oid), mapO (deepC H deepMax) (oC o) = some (oD o) := fun H o => mapO_d H _ _
  have hc : ∀ o, wfO o → (zenv X N).vcall 53 [.agg (oC o)] = some (i64 (chkO o)) := fun o ho => hX.vc (k := 53) (F := fn53) rfl (chkO_ok (hX.fns _ _ rfl) ho (by omega))
  have hcm : ∀ a b, wfO a → wfO b → (zenv X N).vcall 54 [.agg (oC a), .agg (oC b)] = some (i64 (cmpO a b)) := fun a b ha hb => hX.vc (k := 54) (F := fn54) rfl (f54 hX (by omega) ha hb)
  simp only [i64] at hc hcm
  have hsc := iter_find (js := some [0, 7, 8, 9]) (hl := 0) (body := exec (zenv X N) N false fn19L0) (fun j => errAt l j ≠ 0) l.length (fun i => ⟨R19 w l i, []⟩) (b := 0) (s1 := ⟨[.c (.d w), .any, .any, .any, .any, .any, .any, .c (.d w), i64 (l.length : Int), i64 (l.length : Int), bl false, .any, .any, .any, .any], []⟩) (Q := fun k s => nth s.regs 1 = i64 (errAt l k) ∧ s.regs.length = 15) (fuel := N) (by omega)
    (by
      intro j hj hp
      have ho := hl.at hj
      have h1 := hw.at hl hj
      have h2 := flatO_at hl hj
      have h3 := hc _ ho
      have h4 : (j : Int) < (l.length : Int) := by omega
      have h5 := wrap_succ (k := j) (by omega)
      have h6 := oC_len ho
      generalize ho' : l.getD j o0 = o at *
      have hz : chkO o = 0 := by
        unfold errAt at hp; rw [ho'] at hp
        by_cases hz : chkO o = 0
        · exact hz
        · rw [if_pos hz] at hp; exact absurd hz hp
      simp only [hz, Int.natCast_zero] at h3
      by_cases hj0 : j = 0
      · have h7 : ((j : Int) == 0) = true := by subst hj0; rfl
        refine ⟨⟨[.c (.d w), .any, i64 (j : Int), .c (.ptr 0 0 0), i64 0, .any, .any, .c (.d w), i64 (l.length : Int), i64 ((j + 1 : Nat) : Int), bl true, bl false, bl true, .any, .any], [.cells (oC o) 0 false]⟩, ?_, gc_yes rfl rfl⟩
        simp only [fn19L0, ob?, h1, h2, h3, h4, h5, h6, h7, hd, hm, List.drop_zero, List.take_of_length_le (Nat.le_of_eq h6), ↓sp_ixa, evs]
      · have h7 : ((j : Int) == 0) = false := by rw [beq_eq_false_iff_ne]; omega
        have h8 : IntKind.i64.wrap ((j : Int) - 1) = ((j - 1 : Nat) : Int) := by rw [← wrap_nat (k := j - 1) (by omega)]; congr 1; omega
        have hp9 : wfO (l.getD (j - 1) o0) := hl.at (by omega)
        have h9 := hw.at hl (i := j - 1) (by omega)
        have h10 := flatO_at hl (i := j - 1) (by omega)
        have h11 := hcm _ _ hp9 ho
        have h12 := oC_len hp9
        unfold errAt at hp
        rw [ho', if_neg (by rw [hz]; simp), if_neg hj0] at hp
        generalize l.getD (j - 1) o0 = q at *
        generalize cmpO q o = c at *
        have hq : c < 0 := by
          by_cases c1 : c = 0
          · rw [if_pos c1] at hp; simp at hp
          rw [if_neg c1] at hp
          by_cases c2 : c > 0
          · rw [if_pos c2] at hp; simp at hp
          · omega
        have h13 : (c == 0) = false := by rw [beq_eq_false_iff_ne]; omega
        have h14 : ¬ c > 0 := by omega
        refine ⟨⟨[.c (.d w), .any, i64 (j : Int), .c (.ptr 0 0 0), i64 0, i64 c, .any, .c (.d w), i64 (l.length : Int), i64 ((j + 1 : Nat) : Int), bl true, bl false, bl false, bl false, bl false], [.cells (oC o) 0 false]⟩, ?_, gc_yes rfl rfl⟩
        simp only [fn19L0, ob?, h1, h2, h3, h4, h5, h6, h7, h8, h9, h10, h11, h12, h13, h14, hd, hm, List.drop_zero, List.take_of_length_le (Nat.le_of_eq h6), ↓sp_ixa, evs])
    (by simp only [fn19L0, evs])
    (by
      intro j hj hp
      have ho := hl.at hj
      have h1 := hw.at hl hj
      have h2 := flatO_at hl hj
      have h3 := hc _ ho
      have h4 : (j : Int) < (l.length : Int) := by omega
      have h6 := oC_len ho
      unfold errAt at hp ⊢
      generalize l.getD j o0 = o at *
      by_cases hz : chkO o = 0
      · simp only [hz, Int.natCast_zero] at h3
        rw [if_neg (by rw [hz]; simp)] at hp ⊢
        have hj0 : ¬ j = 0 := fun h => by rw [if_pos h] at hp; exact hp rfl
        rw [if_neg hj0] at hp ⊢
        have h7 : ((j : Int) == 0) = false := by rw [beq_eq_false_iff_ne]; omega
        have h8 : IntKind.i64.wrap ((j : Int) - 1) = ((j - 1 : Nat) : Int) := by rw [← wrap_nat (k := j - 1) (by omega)]; congr 1; omega
        have hp9 : wfO (l.getD (j - 1) o0) := hl.at (by omega)
        have h9 := hw.at hl (i := j - 1) (by omega)
        have h10 := flatO_at hl (i := j - 1) (by omega)
        have h11 := hcm _ _ hp9 ho
        have h12 := oC_len hp9
        generalize l.getD (j - 1) o0 = q at *
        generalize cmpO q o = c at *
        by_cases c1 : c = 0
        · subst c1
          have h13 : ((0 : Int) == 0) = true := rfl
          rw [if_pos rfl]
          refine ⟨⟨[.c (.d w), i64 14, i64 (j : Int), .c (.ptr 0 0 0), i64 0, i64 0, .any, .c (.d w), i64 (l.length : Int), i64 (j : Int), bl true, bl false, bl false, bl true, .any], [.cells (oC o) 0 false]⟩, ?_, rfl, rfl⟩
          simp only [fn19L0, ob?, h1, h2, h3, h4, h6, h7, h8, h9, h10, h11, h12, h13, hd, hm, List.drop_zero, List.take_of_length_le (Nat.le_of_eq h6), ↓sp_ixa, evs]
        · rw [if_neg c1] at hp ⊢
          have c2 : c > 0 := Decidable.byContradiction fun h => by rw [if_neg h] at hp; exact hp rfl
          have h13 : (c == 0) = false := by rw [beq_eq_false_iff_ne]; omega
          rw [if_pos c2]
          refine ⟨⟨[.c (.d w), i64 13, i64 (j : Int), .c (.ptr 0 0 0), i64 0, i64 c, .any, .c (.d w), i64 (l.length : Int), i64 (j : Int), bl true, bl false, bl false, bl false, bl true], [.cells (oC o) 0 false]⟩, ?_, rfl, rfl⟩
          simp only [fn19L0, ob?, h1, h2, h3, h4, h6, h7, h8, h9, h10, h11, h12, h13, c2, hd, hm, List.drop_zero, List.take_of_length_le (Nat.le_of_eq h6), ↓sp_ixa, evs]
      · rw [if_pos hz]
        have h7 : ((chkO o : Int) != 0) = true := by rw [bne_iff_ne]; omega
        refine ⟨⟨[.c (.d w), i64 (chkO o), i64 (j : Int), .c (.ptr 0 0 0), i64 (chkO o), .any, .any, .c (.d w), i64 (l.length : Int), i64 (j : Int), bl true, bl true, .any, .any, .any], [.cells (oC o) 0 false]⟩, ?_, rfl, rfl⟩
        simp only [fn19L0, ob?, h1, h2, h3, h4, h6, h7, hd, hm, List.drop_zero, List.take_of_length_le (Nat.le_of_eq h6), ↓sp_ixa, evs])
  have hck : chkS l = firstE (errAt l) l.length := by unfold chkS; rw [if_neg (by omega)]
  simp only [R19, i64, bl, Int.natCast_zero] at hsc
  rcases hsc with ⟨hno, hit⟩ | ⟨k, s', hk, hp, hno, ⟨hq, hq2⟩, hit⟩
  · rw [hck, firstE_none _ _ hno]
    refine ⟨[], (rf_fin _ _ _ _ _ _ _ _ _ (by rfl)).trans ?_⟩
    simp only [hlw, c0, hit, Int.natCast_zero, ↓sp_len, evs, Nat.reduceAdd, Nat.reduceBEq, Nat.reduceSub]
  · rw [hck, firstE_hit _ hp hno _ hk]
    refine ⟨s'.heap, (rf_fin _ _ _ _ _ _ _ _ _ (by rfl)).trans ?_⟩
    obtain ⟨r, H⟩ := s'
    simp only [] at hq
    simp only [hlw, c0, hit, hq, ↓sp_len, evs, Nat.reduceAdd, Nat.reduceBEq, Nat.reduceSub]
end Mini
end Go.Proofs.YtgjlofpfbhioaaaGreatDoor
namespace Go.Proofs.YtgjlofpfbhioaaaGreatDoor
namespace Mini
open Go
variable {m : Int} {X : Ctx}
def anyO : Oid := (5, [2, 5, 29, 32, 0, 0, 0, 0, 0, 0, 0, 0, 0, 0, 0, 0])
theorem any_run (m : Int) : vcallN (XA m) 40 83 [] = some (.agg (oC anyO)) := by
  rw [← vcallF_eq]
  kernel_rfl
theorem f83 (hX : XOk m X) {N : Nat} (hN : 40 ≤ N) : vcallN X N 83 [] = some (.agg (oC anyO)) := hX.run (any_run m) hN
theorem eqInts_cons (k : IntKind) (a b : Int) (xs ys : List C) (r : Bool) (h : eqInts xs ys = some r) : eqInts (.d (.int k a) :: xs) (.d (.int k b) :: ys) = some (a == b && r) := by
  rw [eqInts, if_pos rfl, h]
theorem beq_dec (x y : Nat) : ((x : Int) == (y : Int)) = decide (x = y) := by
  rw [Bool.eq_iff_iff, beq_iff_eq, decide_eq_true_eq]
  omega
theorem eqInts_u : ∀ (a b : List Nat), a.length = b.length → eqInts ((a.map u32D).map .d) ((b.map u32D).map .d) = some (decide (a = b))
  | [], [], _ => rfl
  | x :: a, y :: b, h => by
    refine (eqInts_cons .u32 x y _ _ _ (eqInts_u a b (by simpa using h))).trans ?_
    rw [beq_dec, ← Bool.decide_and]
    congr 1
    rw [decide_eq_decide, List.cons.injEq]
  | [], _ :: _, h => by cases h
  | _ :: _, [], h => by cases h
theorem eqO {a b : Oid} (ha : wfO a) (hb : wfO b) : eqInts (oC a) (oC b) = some (decide (a = b)) := by
  refine (eqInts_cons .u8 a.1 b.1 _ _ _ (eqInts_u a.2 b.2 (by rw [ha.2.1, hb.2.1]))).trans ?_
  rw [beq_dec, ← Bool.decide_and]
  congr 1
  rw [decide_eq_decide, Prod.ext_iff]
end Mini
end Go.Proofs.YtgjlofpfbhioaaaGreatDoor
namespace Go.Proofs.YtgjlofpfbhioaaaGreatDoor
namespace Mini
open Go
variable {m : Int} {X : Ctx}
def flC (l : List Oid) : List C := (l.flatMap oD).map .d
theorem flC_len {l : List Oid} (h : wfS l) : (flC l).length = l.length * 17 := by rw [flC, List.length_map, flatO_len h]
theorem rep_len (z : List C) : ∀ n, (rep z n).length = n * z.length
  | 0 => by simp [rep]
  | n + 1 => by rw [rep, List.length_append, rep_len z n, Nat.succ_mul, Nat.add_comm]
theorem oC_flat (o : Oid) : (oC o).all C.flat = true := by
  rw [List.all_eq_true]
  intro c hc
  simp only [oC, oD, List.map_cons, List.mem_cons, List.mem_map] at hc
  rcases hc with rfl | ⟨d, ⟨x, _, rfl⟩, rfl⟩ <;> rfl
theorem tidy_back {H t : Heap} {js : List Nat} {regs r : List V} {hl : Nat} (hn : hl = H.length) (hr : keepOnly js 0 regs = r) (h1 : r.all (V.under H.length) = true) (h2 : Hp H.length H) : tidy hl (some js) ⟨regs, H ++ t⟩ = ⟨r, H⟩ := by
  subst hr
  exact gc_back hl hn h1 h2
def frn (x : V) (j sz : Nat) (regs : List V) (H : Heap) : St :=
  match x with
  | .c (.d .nils) => ⟨put regs j (.c (.os H.length 0 0 0 sz none)), H ++ [.cells [] 0 false]⟩
  | _ => ⟨regs, H⟩
theorem ex_fresh (E : Env) (N : Nat) (rd : Bool) (j sz : Nat) (regs : List V) (H : Heap) : exec E N rd (.fresh j none sz) ⟨regs, H⟩ = some (.nrm, frn (nth regs j) j sz regs H) := by
  have : exec E N rd (.fresh j none sz) ⟨regs, H⟩ = some (.nrm, freshen j none sz ⟨regs, H⟩) := rfl
  rw [this]
  rfl
theorem frn_nil (j sz : Nat) (regs : List V) (H : Heap) : frn (.c (.d .nils)) j sz regs H = ⟨put regs j (.c (.os H.length 0 0 0 sz none)), H ++ [.cells [] 0 false]⟩ := rfl
end Mini
end Go.Proofs.YtgjlofpfbhioaaaGreatDoor
namespace Go.Proofs.YtgjlofpfbhioaaaGreatDoor
namespace Mini
open Go
variable {m : Int} {X : Ctx}
theorem f20 (hX : XOk m X) {N : Nat} {w w' : D} {l l' : List Oid} (hN : l.length + 5 ≤ N) (hw : isSet w l) (hw' : isSet w' l') (hl : wfS l) (hl' : wfS l') (hlen : l.length < 1000000) : vcallN X N 20 [.c (.d w), .c (.d w')] = some (i64 (if l = l' then 1 else 0)) := by
  obtain ⟨N, rfl⟩ : ∃ M, N = M + 1 := ⟨N - 1, by omega⟩
  have hF : fnsA 20 = some fn20' := rfl
  suffices h : ∃ (H : Heap), callN X (N + 1) (.d (.fn 20 [] [])) [.c (.d w), .c (.d w')] [] = some (i64 (if l = l' then 1 else 0), H) by
    obtain ⟨H, h⟩ := h
    exact vcall_of h rfl
  rw [hX.fn hF]
  have hlw := hw.len
  have hlw' := hw'.len
  have hd : ∀ o : Oid, List.map C.d (oD o) = oC o := fun _ => rfl
  by_cases c0 : l.length = l'.length
  case neg =>
    have g1 : ((l.length : Int) != (l'.length : Int)) = true := by rw [bne_iff_ne]; omega
    have g2 : ¬ l = l' := fun h => c0 (by rw [h])
    refine ⟨[], (rf_fin _ _ _ _ _ _ _ _ _ (by rfl)).trans ?_⟩
    simp only [hlw, hlw', g1, g2, ↓sp_len, evs, Nat.reduceAdd, Nat.reduceSub]
  have g1 : ((l.length : Int) != (l'.length : Int)) = false := by rw [bne_eq_false_iff_eq]; omega
  have hsc := iter_find (js := some [0, 1, 3]) (hl := 0) (body := exec (zenv X N) N false fn20L0) (fun j => l.getD j o0 ≠ l'.getD j o0) l.length (fun i => ⟨[.c (.d w), .c (.d w'), .any, i64 (i : Int), .any, .any, .any], []⟩) (b := 0) (s1 := ⟨[.c (.d w), .c (.d w'), .any, i64 (l.length : Int), .any, bl false, .any], []⟩) (Q := fun k s => nth s.regs 2 = i64 0) (fuel := N) (by omega)
    (by
      intro j hj hp
      have hp := Decidable.not_not.1 hp
      have ho := hl.at hj
      have ho' := hl'.at (i := j) (by omega)
      have h1 := hw.at hl hj
      have h1' := hw'.at hl' (i := j) (by omega)
      have h2 := flatO_at hl hj
      have h2' := flatO_at hl' (i := j) (by omega)
      have h4 : (j : Int) < (l.length : Int) := by omega
      have h5 := wrap_succ (k := j) (by omega)
      have h7 := oC_len ho
      have h7' := oC_len ho'
      have h8 := eqO ho ho'
      rw [decide_eq_true hp] at h8
      refine ⟨⟨[.c (.d w), .c (.d w'), .any, i64 ((j + 1 : Nat) : Int), .any, bl true, bl false], []⟩, ?_, gc_le (Nat.le_refl 0)⟩
      simp only [fn20L0, hlw, h1, h2, h4, h5, h7, h8, h1', h2', h7', hd, Bool.true_xor, Bool.not_true, ↓sp_len, ↓sp_ixa, evs])
    (by simp only [fn20L0, hlw, ↓sp_len, evs])
    (by
      intro j hj hp
      have ho := hl.at hj
      have ho' := hl'.at (i := j) (by omega)
      have h1 := hw.at hl hj
      have h1' := hw'.at hl' (i := j) (by omega)
      have h2 := flatO_at hl hj
      have h2' := flatO_at hl' (i := j) (by omega)
      have h4 : (j : Int) < (l.length : Int) := by omega
      have h7 := oC_len ho
      have h7' := oC_len ho'
      have h8 := eqO ho ho'
      rw [decide_eq_false hp] at h8
      refine ⟨⟨[.c (.d w), .c (.d w'), i64 0, i64 (j : Int), .any, bl true, bl true], []⟩, ?_, rfl⟩
      simp only [fn20L0, hlw, h1, h2, h4, h7, h8, h1', h2', h7', hd, Bool.true_xor, Bool.not_false, ↓sp_len, ↓sp_ixa, evs])
  simp only [i64, bl, Int.natCast_zero] at hsc
  rcases hsc with ⟨hno, hit⟩ | ⟨k, s', hk, hp, hno, hq, hit⟩
  · have he : l = l' := by
      refine List.ext_getElem c0 fun i h1 h2 => ?_
      have := Decidable.not_not.1 (hno i h1)
      rw [List.getD_eq_getElem?_getD, List.getD_eq_getElem?_getD, List.getElem?_eq_getElem h1, List.getElem?_eq_getElem h2] at this
      exact this
    subst he
    refine ⟨[], (rf_fin _ _ _ _ _ _ _ _ _ (by rfl)).trans ?_⟩
    simp only [hlw, hlw', hit, ↓sp_len, evs, Nat.reduceAdd, Nat.reduceBEq, Nat.reduceSub]
  · have he : ¬ l = l' := fun h => hp (by rw [h])
    refine ⟨s'.heap, (rf_fin _ _ _ _ _ _ _ _ _ (by rfl)).trans ?_⟩
    obtain ⟨r, H⟩ := s'
    simp only at hq
    simp only [hlw, hlw', g1, he, hit, hq, ↓sp_len, evs, Nat.reduceAdd, Nat.reduceBEq, Nat.reduceSub]
end Mini
end Go.Proofs.YtgjlofpfbhioaaaGreatDoor
namespace Go.Proofs.YtgjlofpfbhioaaaGreatDoor
namespace Mini
open Go
variable {m : Int} {X : Ctx}
theorem freeze_nil (H : Heap) : freeze H [] = H := rfl
end Mini
end Go.Proofs.YtgjlofpfbhioaaaGreatDoor
namespace Go.Proofs.YtgjlofpfbhioaaaGreatDoor
namespace Mini
open Go
variable {m : Int} {X : Ctx}
def letB (c : Nat) : Bool := decide ((c : Int) ≥ 97) && decide ((c : Int) ≤ 122)
def digB (c : Nat) : Bool := decide ((c : Int) ≥ 48) && decide ((c : Int) ≤ 57)
def okB (c : Nat) : Bool := letB c || digB c || decide ((c : Int) = 45)
def nameB (s : List Nat) : Bool := decide (0 < s.length) && decide (s.length ≤ 32) && letB (s.getD 0 0) && s.all okB
def badN (s : List Nat) (j : Nat) : Bool := !letB (s.getD j 0) && (decide (j = 0) || (!digB (s.getD j 0) && !decide ((s.getD j 0 : Int) = 45)))
abbrev R70 (s : List Nat) (i : Nat) : List V := [.c (.d (.str s)), .any, .any, .any, .any, i64 (s.length : Int), i64 (i : Int), .any, .any]
theorem r70 {E : Env} {N : Nat} {s : List Nat} {j : Nat} (hj : j < s.length) (hs : s.length < 1000000) : exec E N false fn70L0 ⟨R70 s j, []⟩ = some (if badN s j then .ret else .nrm, ⟨[.c (.d (.str s)), if badN s j then bl false else .any, i64 (j : Int), bl (letB (s.getD j 0)), bl (digB (s.getD j 0)), i64 (s.length : Int), i64 ((if badN s j then j else j + 1 : Nat) : Int), bl true, bl (badN s j)], []⟩) := by
  have h1 : (j : Int) < (s.length : Int) := by omega
  have h2 := wrap_succ (k := j) (by omega)
  have h3 : s[j]? = some (s.getD j 0) := by rw [List.getD_eq_getElem?_getD, List.getElem?_eq_getElem hj]; rfl
  unfold badN letB digB
  generalize s.getD j 0 = c at *
  have z1 : ((j : Int) == 0) = decide (j = 0) := by rw [Bool.eq_iff_iff, beq_iff_eq, decide_eq_true_eq]; omega
  have z2 : ((c : Int) != 45) = !decide ((c : Int) = 45) := rfl
  generalize decide (j = 0) = zb at *
  generalize decide ((c : Int) = 45) = eb at *
  by_cases a1 : (c : Int) ≥ 97 <;> by_cases a2 : (c : Int) ≤ 122 <;> by_cases b1 : (c : Int) ≥ 48 <;> by_cases b2 : (c : Int) ≤ 57 <;> cases eb <;> cases zb <;> first
    | (exfalso; omega)
    | (simp only [fn70L0, R70, h1, h2, h3, z1, z2, a1, a2, b1, b2, Bool.and_true, Bool.and_false, Bool.not_true, Bool.not_false, evs])
theorem name_bad {s : List Nat} : (∀ j, j < s.length → badN s j = false) ↔ (s.all okB = true ∧ (s ≠ [] → letB (s.getD 0 0) = true)) := by
  constructor
  · intro h
    refine ⟨?_, fun hne => ?_⟩
    · rw [List.all_eq_true]
      intro c hc
      obtain ⟨i, hi, rfl⟩ := List.getElem_of_mem hc
      have := h i hi
      unfold badN at this
      rw [List.getD_eq_getElem?_getD, List.getElem?_eq_getElem hi, Option.getD_some] at this
      unfold okB
      generalize s[i] = c at *
      cases hl : letB c <;> cases hd : digB c <;> cases he : decide ((c : Int) = 45) <;> simp_all
    · have := h 0 (List.length_pos_iff.2 hne)
      unfold badN at this
      simpa using this
  · intro ⟨h1, h2⟩ j hj
    rw [List.all_eq_true] at h1
    have h3 := h1 _ (List.getElem_mem hj)
    unfold badN
    unfold okB at h3
    rw [List.getD_eq_getElem?_getD, List.getElem?_eq_getElem hj, Option.getD_some]
    by_cases hz : j = 0
    · subst hz
      have h4 := h2 (by intro h; rw [h] at hj; cases hj)
      rw [List.getD_eq_getElem?_getD, List.getElem?_eq_getElem hj, Option.getD_some] at h4
      rw [h4]; rfl
    · generalize s[j] = c at *
      cases hl : letB c <;> cases hd : digB c <;> cases he : decide ((c : Int) = 45) <;> simp_all
theorem f70 (hX : XOk m X) {N : Nat} {s : List Nat} (hN : s.length + 5 ≤ N) (hs : s.length < 1000000) : vcallN X N 70 [.c (.d (.str s))] = some (bl (nameB s)) := by
  obtain ⟨N, rfl⟩ : ∃ M, N = M + 1 := ⟨N - 1, by omega⟩
  have hF : fnsA 70 = some fn70' := rfl
  suffices h : ∃ (H : Heap), callN X (N + 1) (.d (.fn 70 [] [])) [.c (.d (.str s))] [] = some (bl (nameB s), H) by
    obtain ⟨H, h⟩ := h
    exact vcall_of h rfl
  rw [hX.fn hF]
  have hsc := iter_find (js := some [0, 5, 6]) (hl := 0) (body := exec (zenv X N) N false fn70L0) (fun j => badN s j = true) s.length (fun i => ⟨R70 s i, []⟩) (b := 0) (s1 := ⟨[.c (.d (.str s)), .any, .any, .any, .any, i64 (s.length : Int), i64 (s.length : Int), bl false, .any], []⟩) (Q := fun k s => nth s.regs 1 = bl false) (fuel := N) (by omega)
    (by
      intro j hj hp
      have hp : badN s j = false := Bool.eq_false_iff.2 hp
      have := r70 (E := zenv X N) (N := N) hj hs
      rw [hp] at this
      exact ⟨_, this, gc_le (Nat.le_refl 0)⟩)
    (by simp only [fn70L0, R70, evs])
    (by
      intro j hj hp
      have := r70 (E := zenv X N) (N := N) hj hs
      rw [hp] at this
      exact ⟨_, this, rfl⟩)
  simp only [R70, i64, bl, Int.natCast_zero] at hsc
  rcases hsc with ⟨hno, hit⟩ | ⟨k, s', hk, hp, hno, hq, hit⟩
  · obtain ⟨g1, g2⟩ := name_bad.1 fun j hj => Bool.eq_false_iff.2 (hno j hj)
    by_cases c1 : (s.length : Int) > 0
    · have g3 := g2 (by intro h; rw [h] at c1; simp at c1)
      have g4 : 0 < s.length := by omega
      by_cases c2 : (s.length : Int) ≤ 32
      · have : nameB s = true := by unfold nameB; rw [g1, g3, decide_eq_true g4, decide_eq_true (by omega)]; rfl
        rw [this]
        refine ⟨[], (rf_fin _ _ _ _ _ _ _ _ _ (by rfl)).trans ?_⟩
        simp only [hit, c1, c2, evs, Nat.reduceAdd, Nat.reduceBEq, Nat.reduceSub]
      · have : nameB s = false := by unfold nameB; rw [decide_eq_false (p := s.length ≤ 32) (by omega)]; simp
        rw [this]
        refine ⟨[], (rf_fin _ _ _ _ _ _ _ _ _ (by rfl)).trans ?_⟩
        simp only [hit, c1, c2, evs, Nat.reduceAdd, Nat.reduceBEq, Nat.reduceSub]
    · have : nameB s = false := by unfold nameB; rw [decide_eq_false (p := 0 < s.length) (by omega)]; rfl
      rw [this]
      refine ⟨[], (rf_fin _ _ _ _ _ _ _ _ _ (by rfl)).trans ?_⟩
      simp only [hit, c1, evs, Nat.reduceAdd, Nat.reduceBEq, Nat.reduceSub]
  · have : nameB s = false := by
      rw [Bool.eq_false_iff]
      intro h
      unfold nameB at h
      simp only [Bool.and_eq_true] at h
      have := name_bad.2 ⟨h.2, fun _ => h.1.2⟩ k hk
      rw [this] at hp; cases hp
    rw [this]
    refine ⟨s'.heap, (rf_fin _ _ _ _ _ _ _ _ _ (by rfl)).trans ?_⟩
    obtain ⟨r, H⟩ := s'
    simp only at hq
    simp only [hit, hq, evs, Nat.reduceAdd, Nat.reduceBEq, Nat.reduceSub]
end Mini
end Go.Proofs.YtgjlofpfbhioaaaGreatDoor
namespace Go.Proofs.YtgjlofpfbhioaaaGreatDoor
namespace Mini
open Go
variable {m : Int} {X : Ctx}
def anC (s : List Nat) (w : D) (b1 b2 b3 : Bool) : List C := [.d (.str s), .d w, .d (.bool b1), .d (.bool b2), .d (.bool b3)]
def chkA (s : List Nat) (u : List Oid) : Nat := if nameB s = false then 18 else if chkS u ≠ 0 then chkS u else if u.length = 0 then 17 else 0
end Mini
end Go.Proofs.YtgjlofpfbhioaaaGreatDoor
namespace Go.Proofs.YtgjlofpfbhioaaaGreatDoor
namespace Mini
open Go
variable {m : Int} {X : Ctx}
def strV (s : List Nat) : V := .c (.d (.str s))
end Mini
end Go.Proofs.YtgjlofpfbhioaaaGreatDoor
namespace Go.Proofs.YtgjlofpfbhioaaaGreatDoor
namespace Mini
open Go
variable {m : Int} {X : Ctx}
theorem wrap_u8 {n : Nat} (h : n < 256) : IntKind.u8.wrap (n : Int) = (n : Int) := by
  simp only [IntKind.wrap, IntKind.bits, IntKind.signed]
  simp
  omega
end Mini
end Go.Proofs.YtgjlofpfbhioaaaGreatDoor
namespace Go.Proofs.YtgjlofpfbhioaaaGreatDoor
namespace Mini
open Go
theorem iter_inv {js : Option (List Nat)} {hl : Nat} {body : St → Option (Ex × St)} (P : Nat → St → Prop) {e : Ex} (he : e ≠ .nrm) (Q : St → Prop) : ∀ (k i fuel : Nat) (s : St), P i s → (∀ j, i ≤ j → j < i + k → ∀ s, P j s → ∃ s', body s = some (.nrm, s') ∧ P (j + 1) (tidy hl js s')) → (∀ s, P (i + k) s → ∃ s', body s = some (e, s') ∧ Q s') → k < fuel → ∃ s', iter js hl body fuel s = some (e, s') ∧ Q s'
  | 0, i, fuel + 1, s, hp, _, h, _ => by
    obtain ⟨s', h1, h2⟩ := h s hp
    refine ⟨s', ?_, h2⟩
    simp only [iter, h1]
    cases e with
    | nrm => exact absurd rfl he
    | _ => rfl
  | k + 1, i, fuel + 1, s, hp, hr, h, hk => by
    obtain ⟨s', h1, h2⟩ := hr i (Nat.le_refl _) (by omega) s hp
    simp only [iter, h1]
    exact iter_inv P he Q k (i + 1) fuel _ h2 (fun j h3 h4 => hr j (by omega) (by omega)) (by rw [show i + 1 + k = i + (k + 1) by omega]; exact h) (by omega)
end Mini
end Go.Proofs.YtgjlofpfbhioaaaGreatDoor
namespace Go.Proofs.YtgjlofpfbhioaaaGreatDoor
namespace Mini
open Go
variable {m : Int} {X : Ctx}
theorem flD_len {α : Type} {f : α → List D} {k : Nat} : ∀ {l : List α}, (∀ x ∈ l, (f x).length = k) → (l.flatMap f).length = l.length * k
  | [], _ => by simp
  | x :: l, h => by
    rw [List.flatMap_cons, List.length_append, h x List.mem_cons_self, flD_len (fun y hy => h y (List.mem_cons_of_mem _ hy)), List.length_cons, Nat.succ_mul]
    omega
theorem flD_drop {α : Type} {f : α → List D} {k : Nat} : ∀ {l : List α} {i : Nat}, (∀ x ∈ l, (f x).length = k) → (l.flatMap f).drop (i * k) = (l.drop i).flatMap f
  | l, 0, _ => by simp
  | [], i + 1, _ => by simp
  | x :: l, i + 1, h => by
    rw [List.flatMap_cons, List.drop_succ_cons, show (i + 1) * k = k + i * k by rw [Nat.succ_mul]; omega, ← List.drop_drop]
    have hk := h x List.mem_cons_self
    rw [show List.drop k (f x ++ l.flatMap f) = l.flatMap f by rw [← hk]; simp]
    exact flD_drop (fun y hy => h y (List.mem_cons_of_mem _ hy))
theorem lt5_0 (n : Nat) : (0 < n + 1 + 1 + 1 + 1 + 1) = True := eq_true (by omega)
theorem lt5_1 (n : Nat) : (1 < n + 1 + 1 + 1 + 1 + 1) = True := eq_true (by omega)
theorem lt5_2 (n : Nat) : (2 < n + 1 + 1 + 1 + 1 + 1) = True := eq_true (by omega)
theorem lt5_3 (n : Nat) : (3 < n + 1 + 1 + 1 + 1 + 1) = True := eq_true (by omega)
theorem lt5_4 (n : Nat) : (4 < n + 1 + 1 + 1 + 1 + 1) = True := eq_true (by omega)
structure An where
  s : List Nat
  w : D
  l : List Oid
  e : Bool
  nm : Bool
  na : Bool
end Mini
end Go.Proofs.YtgjlofpfbhioaaaGreatDoor
namespace Go.Proofs.YtgjlofpfbhioaaaGreatDoor
namespace Mini
open Go
variable {m : Int} {X : Ctx}
theorem beqS (s t : List Nat) : (s == t) = decide (s = t) := by
  by_cases h : s = t
  · subst h; simp
  · rw [decide_eq_false h]; simpa using h
end Mini
end Go.Proofs.YtgjlofpfbhioaaaGreatDoor
namespace Go.Proofs.YtgjlofpfbhioaaaGreatDoor
namespace Mini
open Go
variable {m : Int} {X : Ctx}
theorem nameB_ok {s : List Nat} (h : nameB s = true) : 0 < s.length ∧ s.length ≤ 32 ∧ ∀ c ∈ s, okB c = true := by
  simp only [nameB, Bool.and_eq_true, decide_eq_true_eq, List.all_eq_true] at h
  exact ⟨h.1.1.1, h.1.1.2, h.2⟩
end Mini
end Go.Proofs.YtgjlofpfbhioaaaGreatDoor
namespace Go.Proofs.YtgjlofpfbhioaaaGreatDoor
namespace Mini
open Go
variable {m : Int} {X : Ctx}
theorem f33g (hX : XOk m X) {N : Nat} {s : List Nat} {w : D} {u : List Oid} {b1 b2 b3 : Bool} (hN : s.length + 400 ≤ N) (hs : s.length < 1000000) (hu : isSet w u) (hul : wfS u) (hlen : u.length < 1000000) : vcallN X N 33 [.agg (anC s w b1 b2 b3)] = some (i64 (chkA s u)) := by
  obtain ⟨N, rfl⟩ : ∃ M, N = M + 1 := ⟨N - 1, by omega⟩
  have h1 := hX.vc (k := 70) (F := fn70) rfl (f70 hX (N := N) (s := s) (by omega) (by omega))
  have h2 := hX.vc (k := 19) (F := fn19) rfl (f19 hX (N := N) (by omega) hu hul hlen)
  have h3 := hu.len
  simp only [i64, bl] at h1 h2
  refine vcall_of (r := i64 (chkA s u)) (H := [.cells (anC s w b1 b2 b3) 0 false]) ?_ rfl
  rw [hX.fn (F := fn33) rfl]
  refine (rf_fin _ _ _ _ _ _ _ _ _ (by rfl)).trans ?_
  unfold chkA
  cases hn : nameB s
  · rw [hn] at h1
    simp only [anC, ob?, h1, Bool.not_false, List.take, List.drop, Int.cast_ofNat_Int, evs, Nat.reduceSub]
  · rw [hn] at h1
    by_cases c1 : chkS u = 0
    · rw [c1] at h2 ⊢
      by_cases c2 : u.length = 0
      · simp only [anC, ob?, h1, h2, h3, c2, Bool.not_true, ne_eq, not_true_eq_false, List.take, List.drop, Int.cast_ofNat_Int, ↓sp_len, evs, Nat.reduceSub, reduceCtorEq]
      · have g2 : ((u.length : Int) == 0) = false := by rw [beq_eq_false_iff_ne]; omega
        simp only [anC, ob?, h1, h2, h3, g2, c2, Bool.not_true, ne_eq, not_true_eq_false, List.take, List.drop, Int.natCast_zero, ↓sp_len, evs, Nat.reduceSub, reduceCtorEq]
    · have g1 : ((chkS u : Int) != 0) = true := by rw [bne_iff_ne]; omega
      simp only [anC, ob?, h1, h2, g1, c1, Bool.not_true, ne_eq, not_false_eq_true, List.take, List.drop, evs, Nat.reduceSub, reduceCtorEq]
section
variable {N j : Nat} {s a b : List Nat} {H : Heap} {l : List An}
end
end Mini
end Go.Proofs.YtgjlofpfbhioaaaGreatDoor
namespace Go.Proofs.YtgjlofpfbhioaaaGreatDoor
namespace Mini
open Go
theorem reach_d (H : Heap) (k : Nat) : ∀ {cs : List C}, cs.all C.isD = true → cs.flatMap (reachC H k) = []
  | [], _ => rfl
  | c :: cs, h => by
    rw [List.all_cons, Bool.and_eq_true] at h
    rw [List.flatMap_cons, reach_d H k h.2, List.append_nil]
    cases c with
    | d x => simp [reachC]
    | _ => cases h.1
theorem oC_d (o : Oid) : (oC o).all C.isD = true := by
  rw [List.all_eq_true]
  intro c hc
  obtain ⟨d, _, rfl⟩ := List.mem_map.1 hc
  rfl
end Mini
end Go.Proofs.YtgjlofpfbhioaaaGreatDoor
namespace Go.Proofs.YtgjlofpfbhioaaaGreatDoor
namespace Mini
open Go
variable {m : Int} {X : Ctx}
structure En where
  s : List Nat
  acc : Bool
  r : Nat
  t : Int
  w : D
  l : List Oid
def enC (s : List Nat) (acc : Bool) (r : Nat) (t : Int) (w : D) : List C := [.d (.str s), .d (.bool acc), .d (.int .u8 (r : Int)), .d (.int .i64 t), .d w]
def badE (acc : Bool) (r : Nat) (t : Int) (n : Nat) : Prop := (acc = true ∧ (r ≠ 0 ∨ t ≠ 0)) ∨ (acc = false ∧ (r < 1 ∨ 3 < r ∨ t < 0 ∨ 63 < t ∨ 0 < n))
instance (acc : Bool) (r : Nat) (t : Int) (n : Nat) : Decidable (badE acc r t n) := by unfold badE; infer_instance
def chkE (s : List Nat) (acc : Bool) (r : Nat) (t : Int) (l : List Oid) : Nat := if nameB s = false then 18 else if badE acc r t l.length then 1 else chkS l
theorem f48 (hX : XOj m X) {N : Nat} {s : List Nat} {acc : Bool} {r : Nat} {t : Int} {w : D} {l : List Oid} (hN : s.length + 500 ≤ N) (hs : s.length < 1000000) (hw : isSet w l) (hl : wfS l) (hlen : l.length < 1000000) : vcallN X N 48 [.agg (enC s acc r t w)] = some (i64 (chkE s acc r t l)) := by
  obtain ⟨N, rfl⟩ : ∃ M, N = M + 1 := ⟨N - 1, by omega⟩
  have hF : fnsX 48 = some fn48' := rfl
  have hx := hX.x
  have h83 := hx.vc (k := 83) (F := fn83) rfl (f83 hx (N := N) (by omega))
  have h19 := hx.vc (k := 19) (F := fn19) rfl (f19 hx (N := N) (by omega) hw hl hlen)
  have hln := hw.len
  have hcA : chkA s [anyO] = if nameB s = false then 18 else 0 := by
    unfold chkA
    rw [if_neg (show ¬ chkS [anyO] ≠ 0 by decide), if_neg (show ¬ [anyO].length = 0 by decide)]
  have hso : slO [anyO] = .sl (oD anyO) 1 := by simp [slO]
  have h33 := hx.vc (k := 33) (F := fn33) rfl (f33g hx (N := N) (s := s) (w := slO [anyO]) (u := [anyO]) (b1 := false) (b2 := false) (b3 := false) (by omega) hs (.inr rfl) (fun o ho => by
    rw [List.mem_singleton] at ho
    subst ho
    exact ⟨by decide, rfl, by decide⟩) (by decide))
  rw [hcA, hso] at h33
  have hoc : ∀ H k, mapO (deepC H k) (oC anyO) = some (oD anyO) := fun H k => mapO_d H k _
  have hol : (oC anyO).length = 17 := rfl
  have hot : (oC anyO).take 17 = oC anyO := rfl
  have hfl : (oC anyO).all C.flat = true := rfl
  have rep1 : ∀ z : List C, rep z 1 = z := fun z => by simp [rep]
  have hd83 := h83
  clear h83 hcA hso
  generalize oC anyO = oc at *
  generalize oD anyO = od at *
  refine vcall_of (r := i64 (chkE s acc r t l)) (H := [.cells (enC s acc r t w) 0 false, .cells oc 0 false]) ?_ rfl
  rw [hX.fn hF]
  simp only [i64, anC] at h19 h33
  unfold chkE
  cases hn : nameB s
  · rw [hn] at h33
    simp only [if_true, Int.cast_ofNat_Int] at h33
    rw [if_pos rfl]
    have g1 : ((18 : Int) != 0) = true := rfl
    refine (rf_fin _ _ _ _ _ _ _ _ _ (by rfl)).trans ?_
    simp only [g1, Int.cast_ofNat_Int, ob?, enC, lay, rep1, splice, hd83, h33, hfl, hoc, hot, hol, deepMax, List.take, List.drop, List.map_cons, List.map_nil, evs, Nat.reduceAdd, Nat.reduceLeDiff, Nat.reduceSub]
  rw [hn] at h33
  simp only [Bool.true_eq_false, if_false, Int.natCast_zero] at h33
  rw [if_neg (by simp)]
  have g0 : ((0 : Int) != 0) = false := rfl
  cases acc
  · by_cases c1 : (r : Int) < 1
    · rw [if_pos (show badE false r t l.length by unfold badE; simp only [reduceCtorEq, false_and, true_and, false_or]; omega)]
      refine (rf_fin _ _ _ _ _ _ _ _ _ (by rfl)).trans ?_
      simp only [g0, Int.cast_ofNat_Int, c1, ob?, enC, lay, rep1, splice, hd83, h33, hfl, hoc, hot, hol, deepMax, List.take, List.drop, List.map_cons, List.map_nil, Bool.not_false, evs, Nat.reduceAdd, Nat.reduceLeDiff, Nat.reduceSub]
    by_cases c2 : (r : Int) > 3
    · rw [if_pos (show badE false r t l.length by unfold badE; simp only [reduceCtorEq, false_and, true_and, false_or]; omega)]
      refine (rf_fin _ _ _ _ _ _ _ _ _ (by rfl)).trans ?_
      simp only [g0, Int.cast_ofNat_Int, c1, c2, ob?, enC, lay, rep1, splice, hd83, h33, hfl, hoc, hot, hol, deepMax, List.take, List.drop, List.map_cons, List.map_nil, Bool.not_false, evs, Nat.reduceAdd, Nat.reduceLeDiff, Nat.reduceSub]
    by_cases c3 : t < 0
    · rw [if_pos (show badE false r t l.length by unfold badE; simp only [reduceCtorEq, false_and, true_and, false_or]; omega)]
      refine (rf_fin _ _ _ _ _ _ _ _ _ (by rfl)).trans ?_
      simp only [g0, Int.cast_ofNat_Int, c1, c2, c3, ob?, enC, lay, rep1, splice, hd83, h33, hfl, hoc, hot, hol, deepMax, List.take, List.drop, List.map_cons, List.map_nil, Bool.not_false, evs, Nat.reduceAdd, Nat.reduceLeDiff, Nat.reduceSub]
    by_cases c4 : t ≥ 64
    · rw [if_pos (show badE false r t l.length by unfold badE; simp only [reduceCtorEq, false_and, true_and, false_or]; omega)]
      refine (rf_fin _ _ _ _ _ _ _ _ _ (by rfl)).trans ?_
      simp only [g0, Int.cast_ofNat_Int, c1, c2, c3, c4, ob?, enC, lay, rep1, splice, hd83, h33, hfl, hoc, hot, hol, deepMax, List.take, List.drop, List.map_cons, List.map_nil, Bool.not_false, evs, Nat.reduceAdd, Nat.reduceLeDiff, Nat.reduceSub]
    by_cases c5 : (l.length : Int) > 0
    · rw [if_pos (show badE false r t l.length by unfold badE; simp only [reduceCtorEq, false_and, true_and, false_or]; omega)]
      refine (rf_fin _ _ _ _ _ _ _ _ _ (by rfl)).trans ?_
      simp only [g0, Int.cast_ofNat_Int, c1, c2, c3, c4, c5, ob?, enC, lay, rep1, splice, hd83, h33, hfl, hln, hoc, hot, hol, deepMax, List.take, List.drop, List.map_cons, List.map_nil, Bool.not_false, ↓sp_len, evs, Nat.reduceAdd, Nat.reduceLeDiff, Nat.reduceSub]
    rw [if_neg (show ¬ badE false r t l.length by unfold badE; simp only [reduceCtorEq, false_and, true_and, false_or]; omega)]
    refine (rf_fin _ _ _ _ _ _ _ _ _ (by rfl)).trans ?_
    simp only [g0, h19, c1, c2, c3, c4, c5, ob?, enC, lay, rep1, splice, hd83, h33, hfl, hln, hoc, hot, hol, deepMax, List.take, List.drop, List.map_cons, List.map_nil, Bool.not_false, ↓sp_len, evs, Nat.reduceAdd, Nat.reduceLeDiff, Nat.reduceSub]
  · by_cases c1 : r = 0
    · subst c1
      have g1 : (((0 : Nat) : Int) != 0) = false := rfl
      by_cases c2 : t = 0
      · subst c2
        rw [if_neg (show ¬ badE true 0 0 l.length by unfold badE; simp only [reduceCtorEq, false_and, true_and, or_false]; omega)]
        refine (rf_fin _ _ _ _ _ _ _ _ _ (by rfl)).trans ?_
        simp only [g0, h19, Int.cast_ofNat_Int, ob?, enC, lay, rep1, splice, hd83, h33, hfl, hoc, hot, hol, deepMax, List.take, List.drop, List.map_cons, List.map_nil, Bool.not_true, evs, Nat.reduceAdd, Nat.reduceLeDiff, Nat.reduceSub]
      · have g2 : (t != 0) = true := by rw [bne_iff_ne]; exact c2
        rw [if_pos (show badE true 0 t l.length by unfold badE; simp only [reduceCtorEq, false_and, true_and, or_false]; omega)]
        refine (rf_fin _ _ _ _ _ _ _ _ _ (by rfl)).trans ?_
        simp only [g0, g2, Int.cast_ofNat_Int, ob?, enC, lay, rep1, splice, hd83, h33, hfl, hoc, hot, hol, deepMax, List.take, List.drop, List.map_cons, List.map_nil, evs, Nat.reduceAdd, Nat.reduceLeDiff, Nat.reduceSub]
    · have g2 : ((r : Int) != 0) = true := by rw [bne_iff_ne]; omega
      rw [if_pos (show badE true r t l.length by unfold badE; simp only [reduceCtorEq, false_and, true_and, or_false]; omega)]
      refine (rf_fin _ _ _ _ _ _ _ _ _ (by rfl)).trans ?_
      simp only [g0, g2, Int.cast_ofNat_Int, ob?, enC, lay, rep1, splice, hd83, h33, hfl, hoc, hot, hol, deepMax, List.take, List.drop, List.map_cons, List.map_nil, evs, Nat.reduceAdd, Nat.reduceLeDiff, Nat.reduceSub]
end Mini
end Go.Proofs.YtgjlofpfbhioaaaGreatDoor
namespace Go.Proofs.YtgjlofpfbhioaaaGreatDoor
namespace Mini
open Go
variable {m : Int} {X : Ctx}
theorem chkE_parts {s : List Nat} {acc : Bool} {r : Nat} {t : Int} {l : List Oid} (h : chkE s acc r t l = 0) : nameB s = true ∧ ¬ badE acc r t l.length ∧ chkS l = 0 := by
  unfold chkE at h
  by_cases h1 : nameB s = false
  · rw [if_pos h1] at h; cases h
  · rw [if_neg h1] at h
    by_cases h2 : badE acc r t l.length
    · rw [if_pos h2] at h; cases h
    · rw [if_neg h2] at h
      exact ⟨by simpa using h1, h2, h⟩
end Mini
end Go.Proofs.YtgjlofpfbhioaaaGreatDoor
namespace Go.Proofs.YtgjlofpfbhioaaaGreatDoor
namespace Mini
open Go
variable {m : Int} {X : Ctx}
def En.ds (e : En) : List D := [.str e.s, .bool e.acc, .int .u8 (e.r : Int), .int .i64 e.t, e.w]
def En.chk (e : En) : Nat := chkE e.s e.acc e.r e.t e.l
def e0 : En := ⟨[], false, 0, 0, .nils, []⟩
def isEns (w : D) (l : List En) : Prop := w = .nils ∧ l = [] ∨ w = .sl (l.flatMap En.ds) l.length
def wfE (e : En) : Prop := isSet e.w e.l ∧ wfS e.l
def wfEs (l : List En) : Prop := ∀ e ∈ l, wfE e
theorem getE_mem {l : List En} {i : Nat} (h : i < l.length) : l.getD i e0 ∈ l := by
  rw [List.getD_eq_getElem?_getD, List.getElem?_eq_getElem h]
  exact List.getElem_mem h
theorem isEns.len {w : D} {l : List En} (h : isEns w l) : lenc (.c (.d w)) = some (.c (.d (.int .i64 (l.length : Int))), []) := by
  rcases h with ⟨rfl, rfl⟩ | rfl <;> rfl
theorem dropE {l : List En} {i : Nat} (h : i < l.length) : l.drop i = l.getD i e0 :: l.drop (i + 1) := by
  rw [List.getD_eq_getElem?_getD, List.getElem?_eq_getElem h]
  exact List.drop_eq_getElem_cons h
theorem isEns.at {w : D} {l : List En} (h : isEns w l) {i : Nat} (hi : i < l.length) : ∃ t, ixac 5 i (.c (.d w)) = some (.c (.d (.ip (En.ds (l.getD i e0) ++ t))), []) := by
  rcases h with ⟨rfl, rfl⟩ | rfl
  · exact absurd hi (Nat.not_lt_zero _)
  · refine ⟨(l.drop (i + 1)).flatMap En.ds, ?_⟩
    have hl : (l.flatMap En.ds).length = l.length * 5 := flD_len (fun _ _ => rfl)
    rw [ixac, if_pos ⟨hi, by rw [hl]; omega⟩, flD_drop (f := En.ds) (k := 5) (fun _ _ => rfl), dropE hi, List.flatMap_cons]
end Mini
end Go.Proofs.YtgjlofpfbhioaaaGreatDoor
namespace Go.Proofs.YtgjlofpfbhioaaaGreatDoor
namespace Mini
open Go
variable {m : Int} {X : Ctx}
def eqE (a b : En) : Prop := a.s = b.s ∧ a.acc = b.acc ∧ a.r = b.r ∧ a.t = b.t ∧ a.l = b.l
instance (a b : En) : Decidable (eqE a b) := by unfold eqE; infer_instance
def alikeE (u v : List En) : Prop := u.length = v.length ∧ ∀ j, j < u.length → eqE (u.getD j e0) (v.getD j e0)
instance (u v : List En) : Decidable (alikeE u v) := by unfold alikeE; infer_instance
set_option maxHeartbeats 2000000 in
theorem f39 (hX : XOj m X) {N : Nat} {w w' : D} {u v : List En} (hN : u.length + 400 ≤ N) (hw : isEns w u) (hw' : isEns w' v) (hu : wfEs u) (hv : wfEs v) (hlen : u.length < 1000000) (hul : ∀ a ∈ u, a.l.length ≤ 300) : vcallN X N 39 [.c (.d w), .c (.d w')] = some (i64 (if alikeE u v then 1 else 0)) := by
  obtain ⟨N, rfl⟩ : ∃ M, N = M + 1 := ⟨N - 1, by omega⟩
  have hF : fnsX 39 = some fn39' := rfl
  suffices h : ∃ H, callN X (N + 1) (.d (.fn 39 [] [])) [.c (.d w), .c (.d w')] [] = some (i64 (if alikeE u v then 1 else 0), H) by
    obtain ⟨H, h⟩ := h
    exact vcall_of h rfl
  rw [hX.fn hF]
  have hlw := hw.len
  have hlw' := hw'.len
  by_cases c0 : u.length = v.length
  case neg =>
    have g0 : ((u.length : Int) != (v.length : Int)) = true := by rw [bne_iff_ne]; omega
    have : ¬ alikeE u v := fun h => c0 h.1
    rw [if_neg this]
    refine ⟨[], (rf_fin _ _ _ _ _ _ _ _ _ (by rfl)).trans ?_⟩
    simp only [hlw, hlw', g0, ↓sp_len, evs, Nat.reduceAdd, Nat.reduceSub]
  have g0 : ((u.length : Int) != (v.length : Int)) = false := by rw [bne_eq_false_iff_eq]; omega
  have hsm : ∀ a b, a ∈ u → b ∈ v → (zenv X N).vcall 20 [.c (.d a.w), .c (.d b.w)] = some (i64 (if a.l = b.l then 1 else 0)) := fun a b ha hb => hX.x.vc (k := 20) (F := fn20) rfl (f20 hX.x (by have := hul a ha; omega) (hu a ha).1 (hv b hb).1 (hu a ha).2 (hv b hb).2 (by have := hul a ha; omega))
  simp only [i64] at hsm
  have b1 : (true ^^ (true == true)) = false := rfl
  have b2 : (true ^^ (true == false)) = true := rfl
  have b3 : (true ^^ (false == true)) = true := rfl
  have b4 : (true ^^ (false == false)) = false := rfl
  have b5 : ((1 : Int) == 0) = false := rfl
  have hsc := iter_find (js := some [0, 1, 3]) (hl := 0) (body := exec (zenv X N) N false fn39L0) (fun j => ¬ eqE (u.getD j e0) (v.getD j e0)) u.length (fun i => ⟨[.c (.d w), .c (.d w'), .any, i64 (i : Int), .any, .any, .any], []⟩) (b := 0) (s1 := ⟨[.c (.d w), .c (.d w'), .any, i64 (u.length : Int), .any, bl false, .any], []⟩) (Q := fun k s => nth s.regs 2 = i64 0 ∧ s.heap = []) (fuel := N) (by omega)
    (by
      intro j hj hp
      have hp := Decidable.not_not.1 hp
      obtain ⟨t, h1⟩ := hw.at hj
      obtain ⟨t', h2⟩ := hw'.at (i := j) (by omega)
      have h3 := hsm _ _ (getE_mem hj) (getE_mem (l := v) (i := j) (by omega))
      have h4 : (j : Int) < (u.length : Int) := by omega
      have h5 := wrap_succ (k := j) (by omega)
      generalize u.getD j e0 = a at *
      generalize v.getD j e0 = b at *
      obtain ⟨sa, ae, an, aa, aw, al⟩ := a
      obtain ⟨sb, be, bn, ba, bw, bl'⟩ := b
      obtain ⟨p1, p2, p3, p4, p5⟩ := hp
      simp only at p1 p2 p3 p4 p5
      subst p1; subst p2; subst p3; subst p4; subst p5
      simp only [En.ds, if_true] at h1 h2 h3
      refine ⟨⟨[.c (.d w), .c (.d w'), .any, i64 ((j + 1 : Nat) : Int), .any, bl true, bl false], []⟩, ?_, gc_le (Nat.le_refl 0)⟩
      have bb : ∀ x : Bool, (true ^^ (x == x)) = false := fun x => by cases x <;> rfl
      simp only [fn39L0, binStr, hlw, h1, h2, h3, h4, h5, b5, Bool.not_true, List.take, List.drop, List.map_cons, List.map_nil, lt5_0, lt5_1, lt5_2, lt5_3, lt5_4, ↓sp_len, ↓sp_ixa, evs])
    (by simp only [fn39L0, hlw, ↓sp_len, evs])
    (by
      intro j hj hp
      obtain ⟨t, h1⟩ := hw.at hj
      obtain ⟨t', h2⟩ := hw'.at (i := j) (by omega)
      have h3 := hsm _ _ (getE_mem hj) (getE_mem (l := v) (i := j) (by omega))
      have h4 : (j : Int) < (u.length : Int) := by omega
      generalize u.getD j e0 = a at *
      generalize v.getD j e0 = b at *
      obtain ⟨sa, ae, an, aa, aw, al⟩ := a
      obtain ⟨sb, be, bn, ba, bw, bl'⟩ := b
      simp only [En.ds] at h1 h2 h3
      refine ⟨⟨[.c (.d w), .c (.d w'), i64 0, i64 (j : Int), .any, bl true, bl true], []⟩, ?_, rfl, rfl⟩
      have bb : ∀ x : Bool, (true ^^ (x == x)) = false := fun x => by cases x <;> rfl
      have bn' : ∀ x y : Bool, x ≠ y → (true ^^ (x == y)) = true := fun x y h => by cases x <;> cases y <;> first | rfl | exact absurd rfl h
      by_cases p1 : sa = sb
      · subst p1
        by_cases p2 : ae = be
        · subst p2
          by_cases p3 : an = bn
          · subst p3
            by_cases p4 : aa = ba
            · subst p4
              have p5 : ¬ al = bl' := fun h => hp ⟨rfl, rfl, rfl, rfl, h⟩
              simp only [if_neg p5] at h3
              simp only [fn39L0, binStr, hlw, h1, h2, h3, h4, Bool.not_true, List.take, List.drop, List.map_cons, List.map_nil, lt5_0, lt5_1, lt5_2, lt5_3, lt5_4, ↓sp_len, ↓sp_ixa, evs]
            · have q : (aa != ba) = true := by rw [bne_iff_ne]; exact p4
              simp only [fn39L0, binStr, hlw, h1, h2, h4, q, Bool.not_true, List.take, List.drop, List.map_cons, List.map_nil, lt5_0, lt5_1, lt5_2, lt5_3, ↓sp_len, ↓sp_ixa, evs]
          · have q : ((an : Int) != (bn : Int)) = true := by rw [bne_iff_ne]; omega
            simp only [fn39L0, binStr, hlw, h1, h2, h4, q, Bool.not_true, List.take, List.drop, List.map_cons, List.map_nil, lt5_0, lt5_1, lt5_2, ↓sp_len, ↓sp_ixa, evs]
        · have q := bn' _ _ p2
          simp only [fn39L0, binStr, hlw, h1, h2, h4, q, Bool.not_true, List.take, List.drop, List.map_cons, List.map_nil, lt5_0, lt5_1, ↓sp_len, ↓sp_ixa, evs]
      · have q : (sa == sb) = false := by rw [beqS]; exact decide_eq_false p1
        simp only [fn39L0, binStr, hlw, h1, h2, h4, q, Bool.not_false, List.take, List.drop, List.map_cons, List.map_nil, lt5_0, ↓sp_len, ↓sp_ixa, evs])
  simp only [i64, bl, Int.natCast_zero] at hsc
  rcases hsc with ⟨hno, hit⟩ | ⟨k, s', hk, hp, hno, ⟨hq, hqh⟩, hit⟩
  · have : alikeE u v := ⟨c0, fun j hj => Decidable.not_not.1 (hno j hj)⟩
    rw [if_pos this]
    refine ⟨[], (rf_fin _ _ _ _ _ _ _ _ _ (by rfl)).trans ?_⟩
    simp only [hlw, hlw', g0, hit, ↓sp_len, evs, Nat.reduceAdd, Nat.reduceBEq, Nat.reduceSub]
  · have : ¬ alikeE u v := fun h => hp (h.2 k hk)
    rw [if_neg this]
    refine ⟨s'.heap, (rf_fin _ _ _ _ _ _ _ _ _ (by rfl)).trans ?_⟩
    obtain ⟨r, H⟩ := s'
    simp only [] at hq
    simp only [hlw, hlw', g0, hit, hq, ↓sp_len, evs, Nat.reduceAdd, Nat.reduceBEq, Nat.reduceSub]
end Mini
end Go.Proofs.YtgjlofpfbhioaaaGreatDoor
namespace Go.Proofs.YtgjlofpfbhioaaaGreatDoor
namespace Mini
open Go
variable {m : Int} {X : Ctx}
def pad16 (l : List Nat) : Oid := (l.length, l ++ List.replicate (16 - l.length) 0)
def fewO (k : Nat) : Oid := match k with
  | 0 => pad16 [1, 2, 3]
  | 1 => pad16 [1, 2, 4]
  | 2 => pad16 [1, 2, 3, 1]
  | 3 => pad16 [2, 5, 29, 32]
  | 4 => pad16 [2, 5, 30]
  | 5 => pad16 [2, 16]
  | _ => pad16 [2, 5, 29, 32, 0]
def ordF : List Nat := [0, 2, 1, 3, 6, 4, 5]
def bitF (m k : Nat) : Bool := (m / 2 ^ k) % 2 == 1
def addF (m k : Nat) : Nat := if bitF m k then m else m + 2 ^ k
def subF (m : Nat) : List Oid := (ordF.filter (bitF m)).map fewO
def polF (m : Nat) : D := if m = 0 then .nils else slO (subF m)
theorem few_runs (m : Int) : (List.range 256).map (fun n => vcallF (XA m) 60 32 [.c (.d (.int .u8 (Int.ofNat n)))]) = (List.range 256).map (fun n => some (.agg (oC (fewO (n % 7))))) := by kernel_rfl
theorem f32 (hX : XOk m X) {N : Nat} (hN : 60 ≤ N) {n : Nat} (hn : n < 256) : vcallN X N 32 [.c (.d (.int .u8 (n : Int)))] = some (.agg (oC (fewO (n % 7)))) := by
  refine hX.run (n := 60) ?_ hN
  rw [← vcallF_eq]
  exact (List.map_inj_left.1 (few_runs m)) n (List.mem_range.2 hn)
def cntF (m : Nat) : Nat := (ordF.filter (bitF m)).length
def pairsF : List (Nat × Nat) := ((List.range 128).filter fun m => cntF m < 4).flatMap fun m => (List.range 7).map fun k => (m, k)
theorem with_runs (m : Int) : pairsF.map (fun p => vcallF (XA m) 60 78 [.c (.d (polF p.1)), .agg (oC (fewO p.2))]) = pairsF.map (fun p => some (.c (.d (polF (addF p.1 p.2))))) := by kernel_rfl
theorem f78 (hX : XOk m X) {N : Nat} (hN : 60 ≤ N) {a k : Nat} (ha : a < 128) (hc : cntF a < 4) (hk : k < 7) : vcallN X N 78 [.c (.d (polF a)), .agg (oC (fewO k))] = some (.c (.d (polF (addF a k)))) := by
  refine hX.run (n := 60) ?_ hN
  rw [← vcallF_eq]
  refine (List.map_inj_left.1 (with_runs m)) (a, k) ?_
  unfold pairsF
  rw [List.mem_flatMap]
  exact ⟨a, List.mem_filter.2 ⟨List.mem_range.2 ha, by simpa using hc⟩, List.mem_map.2 ⟨k, List.mem_range.2 hk, rfl⟩⟩
def okF (a : Nat) : Bool := (chkS (subF a) == 0) && decide ((subF a).length ≤ 7) && (a == 0 || decide (0 < (subF a).length)) && (List.range 7).all fun k => decide (addF a k < 128) && !(addF a k == 0) && decide (cntF (addF a k) ≤ cntF a + 1)
theorem okF_all : (List.range 128).all okF = true := by decide +kernel
theorem okF_at {a : Nat} (h : a < 128) : chkS (subF a) = 0 ∧ (subF a).length ≤ 7 ∧ (a ≠ 0 → 0 < (subF a).length) ∧ ∀ k, k < 7 → addF a k < 128 ∧ addF a k ≠ 0 ∧ cntF (addF a k) ≤ cntF a + 1 := by
  have := List.all_eq_true.1 okF_all a (List.mem_range.2 h)
  simp only [okF, Bool.and_eq_true, beq_iff_eq, decide_eq_true_eq, Bool.or_eq_true, List.all_eq_true, List.mem_range, Bool.not_eq_true', beq_eq_false_iff_ne] at this
  exact ⟨this.1.1.1, this.1.1.2, fun h => this.1.2.resolve_left h, fun k hk => ⟨(this.2 k hk).1.1, (this.2 k hk).1.2, (this.2 k hk).2⟩⟩
theorem fewO_wf (k : Nat) : wfO (fewO k) := by
  unfold fewO pad16 wfO
  split <;> decide
theorem subF_wf (a : Nat) : wfS (subF a) := fun o ho => by
  obtain ⟨k, _, rfl⟩ := List.mem_map.1 ho
  exact fewO_wf k
theorem polF_is (a : Nat) : isSet (polF a) (subF a) := by
  unfold polF
  split
  · rename_i h; subst h; exact .inl ⟨rfl, by decide⟩
  · exact .inr rfl
def mskF : List Nat → Nat → Nat
  | _, 0 => 0
  | bs, j + 1 => addF (mskF bs j) (bs.getD j 0 % 7)
theorem mskF_ok (bs : List Nat) : ∀ j, mskF bs j < 128 ∧ cntF (mskF bs j) ≤ j ∧ (0 < j → mskF bs j ≠ 0)
  | 0 => ⟨by show (0 : Nat) < 128; decide, by show cntF 0 ≤ 0; decide, fun h => absurd h (Nat.lt_irrefl _)⟩
  | j + 1 => by
    obtain ⟨h1, h2, _⟩ := mskF_ok bs j
    obtain ⟨h3, h4, h5⟩ := (okF_at h1).2.2.2 (bs.getD j 0 % 7) (by omega)
    exact ⟨h3, by unfold mskF; omega, fun _ => h4⟩
def isBy (w : D) (bs : List Nat) : Prop := w = .nils ∧ bs = [] ∨ w = .sl (bs.map fun b : Nat => D.int .u8 (b : Int)) bs.length
theorem isBy.len {w : D} {l : List Nat} (h : isBy w l) : lenc (.c (.d w)) = some (.c (.d (.int .i64 (l.length : Int))), []) := by
  rcases h with ⟨rfl, rfl⟩ | rfl <;> rfl
theorem isBy.at {w : D} {l : List Nat} (h : isBy w l) {i : Nat} (hi : i < l.length) : ∃ t, ixac 1 i (.c (.d w)) = some (.c (.d (.ip (D.int .u8 (l.getD i 0 : Int) :: t))), []) := by
  rcases h with ⟨rfl, rfl⟩ | rfl
  · exact absurd hi (Nat.not_lt_zero _)
  · refine ⟨(l.drop (i + 1)).map fun b : Nat => D.int .u8 (b : Int), ?_⟩
    have h2 : (l.map fun b : Nat => D.int .u8 (b : Int)).drop i = D.int .u8 (l.getD i 0 : Int) :: (l.drop (i + 1)).map fun b : Nat => D.int .u8 (b : Int) := by
      rw [List.getD_eq_getElem?_getD, List.getElem?_eq_getElem hi, ← List.map_drop, List.drop_eq_getElem_cons hi]
      rfl
    rw [ixac, if_pos ⟨hi, by simp; omega⟩, Nat.mul_one, h2]
end Mini
end Go.Proofs.YtgjlofpfbhioaaaGreatDoor
namespace Go.Proofs.YtgjlofpfbhioaaaGreatDoor
namespace Mini
open Go
variable {m : Int} {X : Ctx}
structure Ej where
  nm : Nat
  acc : Bool
  rs : Nat
  tt : Nat
  w : D
  bs : List Nat
def Ej.ds (x : Ej) : List D := [.int .u8 (x.nm : Int), .bool x.acc, .int .u8 (x.rs : Int), .int .u8 (x.tt : Int), x.w]
def j0 : Ej := ⟨0, false, 0, 0, .nils, []⟩
def wfJ (x : Ej) : Prop := isBy x.w x.bs ∧ (∀ b ∈ x.bs, b < 256) ∧ x.nm < 256 ∧ x.rs < 256 ∧ x.tt < 256
def isEjs (w : D) (l : List Ej) : Prop := w = .nils ∧ l = [] ∨ w = .sl (l.flatMap Ej.ds) l.length
def nameJ (k : Nat) : List Nat := if k = 0 then [97] else if k = 1 then [98] else if k = 2 then [99, 45, 50] else if k = 3 then [114, 111, 111, 116] else [122, 57]
abbrev namesJ : List C := [.d (.str [97]), .d (.str [98]), .d (.str [99, 45, 50]), .d (.str [114, 111, 111, 116]), .d (.str [122, 57])]
theorem nameJ_at {k : Nat} (h : k < 5) : (namesJ.drop k).take 1 = [.d (.str (nameJ k))] := by
  have : k = 0 ∨ k = 1 ∨ k = 2 ∨ k = 3 ∨ k = 4 := by omega
  rcases this with rfl | rfl | rfl | rfl | rfl <;> rfl
def enO (x : Ej) : En := if x.acc then ⟨nameJ (x.nm % 5), true, 0, 0, polF (mskF x.bs (min x.bs.length 4)), subF (mskF x.bs (min x.bs.length 4))⟩ else ⟨nameJ (x.nm % 5), false, 1 + x.rs % 3, ((x.tt % 64 : Nat) : Int), .nils, []⟩
abbrev R44 (j : Nat) : List V := [.any, .c (.ptr 0 0 0), .c (.ptr 1 0 0), .c (.ptr 3 0 0), i64 (j : Int), .any, .any]
def zE : List C := [.d (.str []), .d (.bool false), .d (.int .u8 0), .d (.int .i64 0), .d .nils]
theorem rg_ap (ts : List V) (H : Heap) (E : Env) (regs : List V) (exp : List (Nat × Nat)) (a b : A) (aps : List (A × A)) : regc (some (ts, H)) E regs exp ((a, b) :: aps) = if apart (look E regs ts a) (look E regs ts b) = true then regc (some (ts, H)) E regs exp aps else none := by
  by_cases h : apart (look E regs ts a) (look E regs ts b) = true
  · simp only [regc, List.all_cons, h, Bool.true_and, if_true]
  · simp only [regc, List.all_cons, h, Bool.false_and]
    rfl
theorem f44 (hX : XOj m X) {N : Nat} (hN : 100 ≤ N) {x : Ej} (hx : wfJ x) : vcallN X N 44 [.agg (x.ds.map .d)] = some (.agg ((enO x).ds.map .d)) := by
  obtain ⟨N, rfl⟩ : ∃ M, N = M + 1 := ⟨N - 1, by omega⟩
  have hF : fnsX 44 = some fn44' := rfl
  obtain ⟨nm, acc, rs, tt, w, bs⟩ := x
  obtain ⟨hb, hbs, hnm, hrs, htt⟩ := hx
  simp only at hb hbs hnm hrs htt
  have hlw := hb.len
  have q1 : (nm : Int).tmod 5 = ((nm % 5 : Nat) : Int) := (Int.ofNat_tmod nm 5).symm
  have q2 : (rs : Int).tmod 3 = ((rs % 3 : Nat) : Int) := (Int.ofNat_tmod rs 3).symm
  have q3 : (tt : Int).tmod 64 = ((tt % 64 : Nat) : Int) := (Int.ofNat_tmod tt 64).symm
  have q4 : IntKind.u8.wrap (1 + ((rs % 3 : Nat) : Int)) = ((1 + rs % 3 : Nat) : Int) := by
    rw [← wrap_u8 (n := 1 + rs % 3) (by omega)]; rfl
  have q5 := wrap_nat (k := tt % 64) (by omega)
  have hk : nm % 5 < 5 := by omega
  have q6 := nameJ_at hk
  have q7 : asNat (.c (.d (.int .u8 ((nm % 5 : Nat) : Int)))) = some (nm % 5) := asNat_nat _ _
  unfold Ej.ds
  simp only [List.map_cons, List.map_nil]
  cases acc
  · have hE : enO ⟨nm, false, rs, tt, w, bs⟩ = ⟨nameJ (nm % 5), false, 1 + rs % 3, ((tt % 64 : Nat) : Int), .nils, []⟩ := rfl
    rw [hE]
    simp only [En.ds, List.map_cons, List.map_nil]
    generalize nameJ (nm % 5) = nn at *
    generalize nm % 5 = k at *
    generalize 1 + rs % 3 = r1 at *
    generalize tt % 64 = t1 at *
    generalize hrs3 : rs % 3 = r3 at *
    refine vcall_of (r := .agg [.d (.str nn), .d (.bool false), .d (.int .u8 (r1 : Int)), .d (.int .i64 (t1 : Int)), .d .nils]) (H := [.cells [.d (.int .u8 (nm : Int)), .d (.bool false), .d (.int .u8 (rs : Int)), .d (.int .u8 (tt : Int)), .d w] 0 false, .cells [.d (.str nn), .d (.bool false), .d (.int .u8 (r1 : Int)), .d (.int .i64 (t1 : Int)), .d .nils] 0 false, .cells namesJ 0 false, .cells [.d (.str nn), .d (.bool false), .d (.int .u8 (r1 : Int)), .d (.int .i64 (t1 : Int)), .d .nils] 0 false]) ?_ rfl
    rw [hX.fn hF]
    refine (rf_fin _ _ _ _ _ _ _ _ _ (by rfl)).trans ?_
    have ap : apart (.c (.ptr 0 0 3)) (.c (.ptr 3 0 2)) = true := rfl
    simp only [ob?, lay, rep, splice, rg_ap, ap, q1, q2, q3, q4, q5, q6, q7, hk, List.take, List.drop, List.map_cons, List.map_nil, List.set_cons_zero, List.set_cons_succ, Bool.not_false, ↓sp_ixa, evs, Int.reduceEq, Nat.reduceAdd, Nat.reduceLeDiff, Nat.reduceSub]
  · have hE : enO ⟨nm, true, rs, tt, w, bs⟩ = ⟨nameJ (nm % 5), true, 0, 0, polF (mskF bs (min bs.length 4)), subF (mskF bs (min bs.length 4))⟩ := rfl
    rw [hE]
    simp only [En.ds, List.map_cons, List.map_nil]
    generalize nameJ (nm % 5) = nn at *
    generalize nm % 5 = k at *
    have hit : iter (some [1, 2, 3, 4]) 4 (exec (zenv X N) N false fn44L0) N ⟨R44 0, [.cells [.d (.int .u8 (nm : Int)), .d (.bool true), .d (.int .u8 (rs : Int)), .d (.int .u8 (tt : Int)), .d w] 0 false, .cells zE 0 false, .cells namesJ 0 false, .cells [.d (.str nn), .d (.bool true), .d (.int .u8 0), .d (.int .i64 0), .d (polF (mskF bs 0))] 0 false]⟩ = some (.exit 0, ⟨[.any, .c (.ptr 0 0 0), .c (.ptr 1 0 0), .c (.ptr 3 0 0), i64 ((min bs.length 4 : Nat) : Int), .any, bl false], [.cells [.d (.int .u8 (nm : Int)), .d (.bool true), .d (.int .u8 (rs : Int)), .d (.int .u8 (tt : Int)), .d w] 0 false, .cells zE 0 false, .cells namesJ 0 false, .cells [.d (.str nn), .d (.bool true), .d (.int .u8 0), .d (.int .i64 0), .d (polF (mskF bs (min bs.length 4)))] 0 false]⟩) := by
      refine iter_to (fun j => ⟨R44 j, [.cells [.d (.int .u8 (nm : Int)), .d (.bool true), .d (.int .u8 (rs : Int)), .d (.int .u8 (tt : Int)), .d w] 0 false, .cells zE 0 false, .cells namesJ 0 false, .cells [.d (.str nn), .d (.bool true), .d (.int .u8 0), .d (.int .i64 0), .d (polF (mskF bs j))] 0 false]⟩) (e := .exit 0) (fun h => by cases h) (min bs.length 4) 0 N (fun j _ hj => ?_) ?_ (by omega)
      · have hj1 : j < bs.length := by omega
        have h4 : (j : Int) < (bs.length : Int) := by omega
        have h5 : (j : Int) < 4 := by omega
        have h6 := wrap_succ (k := j) (by omega)
        obtain ⟨t, h1⟩ := hb.at hj1
        have hm : bs.getD j 0 ∈ bs := by
          rw [List.getD_eq_getElem?_getD, List.getElem?_eq_getElem hj1]; exact List.getElem_mem _
        have h32 := hX.x.vc (k := 32) (F := fn32) rfl (f32 hX.x (N := N) (by omega) (hbs _ hm))
        obtain ⟨k1, k2, _⟩ := mskF_ok bs j
        have h78 := hX.x.vc (k := 78) (F := fn78) rfl (f78 hX.x (N := N) (by omega) k1 (by omega) (show bs.getD j 0 % 7 < 7 by omega))
        have hM : mskF bs (j + 1) = addF (mskF bs j) (bs.getD j 0 % 7) := rfl
        rw [hM]
        have hlo := oC_len (fewO_wf (bs.getD j 0 % 7))
        have hd : List.map C.d (oD (fewO (bs.getD j 0 % 7))) = oC (fewO (bs.getD j 0 % 7)) := rfl
        have hm2 : ∀ H : Heap, mapO (deepC H deepMax) (oC (fewO (bs.getD j 0 % 7))) = some (oD (fewO (bs.getD j 0 % 7))) := fun H => mapO_d H _ _
        have hro : ∀ H : Heap, (oC (fewO (bs.getD j 0 % 7))).flatMap (reachC H deepMax) = [] := fun H => reach_d H _ (oC_d _)
        have hfo := oC_flat (fewO (bs.getD j 0 % 7))
        generalize fewO (bs.getD j 0 % 7) = o at *
        generalize polF (addF (mskF bs j) (bs.getD j 0 % 7)) = s' at *
        generalize polF (mskF bs j) = s at *
        generalize bs.getD j 0 = b at *
        refine ⟨⟨[.any, .c (.ptr 0 0 0), .c (.ptr 1 0 0), .c (.ptr 3 0 0), i64 ((j + 1 : Nat) : Int), .any, bl true], [.cells [.d (.int .u8 (nm : Int)), .d (.bool true), .d (.int .u8 (rs : Int)), .d (.int .u8 (tt : Int)), .d w] 0 false, .cells zE 0 false, .cells namesJ 0 false, .cells [.d (.str nn), .d (.bool true), .d (.int .u8 0), .d (.int .i64 0), .d s'] 0 false]⟩, ?_, gc_le (Nat.le_refl 4)⟩
        simp only [fn44L0, R44, ob?, splice, hlw, h1, h4, h5, h6, h32, h78, hd, hm2, hro, hfo, List.take, List.drop, List.map_cons, List.map_nil, List.set_cons_zero, List.set_cons_succ, freeze_nil, reachV, reachC, ite_self, List.flatMap_cons, List.flatMap_nil, List.append_nil, ↓sp_len, ↓sp_ixa, evs, Nat.reduceAdd, Nat.reduceLeDiff]
      · rw [Nat.zero_add]
        by_cases h : ((min bs.length 4 : Nat) : Int) < (bs.length : Int)
        · have h5 : ¬ ((min bs.length 4 : Nat) : Int) < 4 := by omega
          simp only [fn44L0, R44, ob?, hlw, h, h5, List.take, List.drop, ↓sp_len, evs]
        · simp only [fn44L0, R44, ob?, hlw, h, List.take, List.drop, ↓sp_len, evs]
    have hs0 : polF (mskF bs 0) = .nils := rfl
    rw [hs0] at hit
    simp only [R44, i64, bl, Int.natCast_zero, zE] at hit
    generalize polF (mskF bs (min bs.length 4)) = pl at *
    generalize ((min bs.length 4 : Nat) : Int) = mn at *
    refine vcall_of (r := .agg [.d (.str nn), .d (.bool true), .d (.int .u8 0), .d (.int .i64 0), .d pl]) (H := [.cells [.d (.int .u8 (nm : Int)), .d (.bool true), .d (.int .u8 (rs : Int)), .d (.int .u8 (tt : Int)), .d w] 0 false, .cells [.d (.str nn), .d (.bool true), .d (.int .u8 0), .d (.int .i64 0), .d pl] 0 false, .cells namesJ 0 false, .cells [.d (.str nn), .d (.bool true), .d (.int .u8 0), .d (.int .i64 0), .d pl] 0 false]) ?_ rfl
    rw [hX.fn hF]
    refine (rf_fin _ _ _ _ _ _ _ _ _ (by rfl)).trans ?_
    simp only [ob?, lay, rep, splice, hit, q1, q6, q7, hk, List.take, List.drop, List.map_cons, List.map_nil, List.set_cons_zero, List.set_cons_succ, Bool.not_true, ↓sp_ixa, evs, Int.reduceEq, Nat.reduceAdd, Nat.reduceLeDiff, Nat.reduceBEq, Nat.reduceSub]
end Mini
end Go.Proofs.YtgjlofpfbhioaaaGreatDoor
namespace Go.Proofs.YtgjlofpfbhioaaaGreatDoor
namespace Mini
open Go
variable {m : Int} {X : Ctx}
theorem isEjs.len {w : D} {l : List Ej} (h : isEjs w l) : lenc (.c (.d w)) = some (.c (.d (.int .i64 (l.length : Int))), []) := by
  rcases h with ⟨rfl, rfl⟩ | rfl <;> rfl
theorem dropJ {l : List Ej} {i : Nat} (h : i < l.length) : l.drop i = l.getD i j0 :: l.drop (i + 1) := by
  rw [List.getD_eq_getElem?_getD, List.getElem?_eq_getElem h]
  exact List.drop_eq_getElem_cons h
theorem isEjs.at {w : D} {l : List Ej} (h : isEjs w l) {i : Nat} (hi : i < l.length) : ∃ t, ixac 5 i (.c (.d w)) = some (.c (.d (.ip (Ej.ds (l.getD i j0) ++ t))), []) := by
  rcases h with ⟨rfl, rfl⟩ | rfl
  · exact absurd hi (Nat.not_lt_zero _)
  · refine ⟨(l.drop (i + 1)).flatMap Ej.ds, ?_⟩
    have hl : (l.flatMap Ej.ds).length = l.length * 5 := flD_len (fun _ _ => rfl)
    rw [ixac, if_pos ⟨hi, by rw [hl]; omega⟩, flD_drop (f := Ej.ds) (k := 5) (fun _ _ => rfl), dropJ hi, List.flatMap_cons]
theorem getJ_mem {l : List Ej} {i : Nat} (h : i < l.length) : l.getD i j0 ∈ l := by
  rw [List.getD_eq_getElem?_getD, List.getElem?_eq_getElem h]
  exact List.getElem_mem h
def eC (l : List En) : List C := (l.flatMap En.ds).map .d
theorem eC_len (l : List En) : (eC l).length = l.length * 5 := by
  rw [eC, List.length_map, flD_len (k := 5) (fun _ _ => rfl)]
theorem eC_snoc (l : List En) (e : En) : eC (l ++ [e]) = eC l ++ e.ds.map .d := by simp [eC]
theorem eC_u (n : Nat) (l : List En) : (eC l).all (uC n) = true := by
  rw [List.all_eq_true]
  intro c hc
  obtain ⟨d, _, rfl⟩ := List.mem_map.1 hc
  rfl
def lstJ (xs : List Ej) (n : Nat) : List En := (List.range n).map fun i => enO (xs.getD i j0)
theorem lstJ_len (xs : List Ej) (n : Nat) : (lstJ xs n).length = n := by simp [lstJ]
theorem lstJ_succ (xs : List Ej) (n : Nat) : lstJ xs (n + 1) = lstJ xs n ++ [enO (xs.getD n j0)] := by simp [lstJ, List.range_succ]
theorem nameJ_ok : ∀ k, k < 5 → nameB (nameJ k) = true := by decide
theorem enO_ok (x : Ej) : (enO x).chk = 0 ∧ wfE (enO x) ∧ (enO x).l.length ≤ 7 := by
  have hn := nameJ_ok (x.nm % 5) (by omega)
  unfold enO
  cases x.acc
  · refine ⟨?_, ⟨.inl ⟨rfl, rfl⟩, fun _ h => by cases h⟩, by simp⟩
    simp only [En.chk, Bool.false_eq_true, if_false]
    unfold chkE
    rw [if_neg (by rw [hn]; simp), if_neg (by simp only [badE, reduceCtorEq, false_and, true_and, false_or, List.length_nil]; omega)]
    decide
  · obtain ⟨k1, _⟩ := mskF_ok x.bs (min x.bs.length 4)
    obtain ⟨k2, k3, _⟩ := okF_at k1
    refine ⟨?_, ⟨polF_is _, subF_wf _⟩, k3⟩
    simp only [En.chk, if_true]
    unfold chkE
    rw [if_neg (by rw [hn]; simp), if_neg (by simp [badE]), k2]
theorem mem_lstJ {xs : List Ej} {n : Nat} {e : En} (h : e ∈ lstJ xs n) : ∃ i, i < n ∧ e = enO (xs.getD i j0) := by
  obtain ⟨i, h1, h2⟩ := List.mem_map.1 h
  exact ⟨i, List.mem_range.1 h1, h2.symm⟩
theorem lstJ_ok (xs : List Ej) (n : Nat) : (∀ e ∈ lstJ xs n, e.chk = 0) ∧ wfEs (lstJ xs n) ∧ ∀ e ∈ lstJ xs n, e.l.length ≤ 7 := by
  refine ⟨fun e he => ?_, fun e he => ?_, fun e he => ?_⟩ <;> obtain ⟨i, _, rfl⟩ := mem_lstJ he
  · exact (enO_ok _).1
  · exact (enO_ok _).2.1
  · exact (enO_ok _).2.2
theorem f35 (hX : XOj m X) {N : Nat} (hN : 200 ≤ N) {w : D} {xs : List Ej} (hw : isEjs w xs) (hx : ∀ x ∈ xs, wfJ x) : vcallN X N 35 [.c (.d w)] = some (.c (.d (.sl ((lstJ xs (min xs.length 12)).flatMap En.ds) (min xs.length 12)))) := by
  obtain ⟨N, rfl⟩ : ∃ M, N = M + 1 := ⟨N - 1, by omega⟩
  have hF : fnsX 35 = some fn35' := rfl
  have hlw := hw.len
  have hit : iter (some [0, 2, 3]) 1 (exec (zenv X N) N false fn35L0) N ⟨[.c (.d w), .any, .c (.os 0 0 0 0 5 none), i64 ((0 : Nat) : Int), .any], [.cells (eC (lstJ xs 0)) 0 false]⟩ = some (.exit 0, ⟨[.c (.d w), .any, .c (.os 0 (min xs.length 12) 0 (min xs.length 12) 5 none), i64 ((min xs.length 12 : Nat) : Int), bl false], [.cells (eC (lstJ xs (min xs.length 12))) (min xs.length 12) false]⟩) := by
    refine iter_to (fun j => ⟨[.c (.d w), .any, .c (.os 0 j 0 j 5 none), i64 (j : Int), .any], [.cells (eC (lstJ xs j)) j false]⟩) (e := .exit 0) (fun h => by cases h) (min xs.length 12) 0 N (fun j _ hj => ?_) ?_ (by omega)
    · have hj1 : j < xs.length := by omega
      have h4 : (j : Int) < (xs.length : Int) := by omega
      have h5 : (j : Int) < 12 := by omega
      have h6 := wrap_succ (k := j) (by omega)
      obtain ⟨t, h1⟩ := hw.at hj1
      have h44 := hX.vc (k := 44) (F := fn44) rfl (f44 hX (N := N) (by omega) (hx _ (getJ_mem hj1)))
      rw [lstJ_succ, eC_snoc]
      have hal := eC_len (lstJ xs j)
      rw [lstJ_len] at hal
      have htk : (eC (lstJ xs j)).take (j * 5) = eC (lstJ xs j) := List.take_of_length_le (by omega)
      have k1 : j + 1 ≤ 1073741824 := by omega
      have k2 : j + 1 < genK := by show j + 1 < 1000000; omega
      have hu := eC_u 1 (lstJ xs j)
      generalize enO (xs.getD j j0) = a at *
      generalize xs.getD j j0 = x at *
      generalize eC (lstJ xs j) = ac at *
      simp only [Ej.ds] at h1 h44
      simp only [En.ds, List.map_cons, List.map_nil] at h44 ⊢
      refine ⟨⟨[.c (.d w), .any, .c (.os 0 (j + 1) 0 (j + 1) 5 none), i64 ((j + 1 : Nat) : Int), bl true], [.cells (ac ++ [.d (.str a.s), .d (.bool a.acc), .d (.int .u8 (a.r : Int)), .d (.int .i64 a.t), .d a.w]) (j + 1) false] ++ [.cells [.d (.str a.s), .d (.bool a.acc), .d (.int .u8 (a.r : Int)), .d (.int .i64 a.t), .d a.w] 0 false]⟩, ?_, ?_⟩
      · simp only [fn35L0, ob?, elems, lay, rep, splice, hlw, h1, h4, h5, h6, h44, hal, htk, k1, k2, Option.map_none, Nat.one_ne_zero, Nat.le_refl, List.cons_append, List.nil_append, List.take, List.drop, List.map_cons, List.map_nil, List.set_cons_zero, freeze_nil, reachV, reachC, ite_self, List.flatMap_cons, List.flatMap_nil, ↓sp_len, ↓sp_ixa, evs, Nat.reduceAdd]
      · refine tidy_back (by simp) rfl (by rfl) (Hp.cons ?_ Hp.nil)
        simp only [uO, List.all_append, Bool.and_eq_true]
        exact ⟨hu, rfl⟩
    · rw [Nat.zero_add]
      by_cases h : ((min xs.length 12 : Nat) : Int) < (xs.length : Int)
      · have h5 : ¬ ((min xs.length 12 : Nat) : Int) < 12 := by omega
        simp only [fn35L0, hlw, h, h5, ↓sp_len, evs]
      · simp only [fn35L0, hlw, h, ↓sp_len, evs]
  have ha0 : eC (lstJ xs 0) = [] := rfl
  have hal := eC_len (lstJ xs (min xs.length 12))
  rw [lstJ_len] at hal
  rw [ha0] at hit
  simp only [i64, bl, Int.natCast_zero] at hit
  refine vcall_of (r := .c (.os 0 (min xs.length 12) 0 (min xs.length 12) 5 none)) (H := [.cells (eC (lstJ xs (min xs.length 12))) (min xs.length 12) false]) ?_ ?_
  · rw [hX.fn hF]
    refine (rf_fin _ _ _ _ _ _ _ _ _ (by rfl)).trans ?_
    simp only [ex_fresh, frn_nil, hit, evs, Nat.reduceAdd, Nat.reduceBEq, Nat.reduceSub]
  · have p2 : ((eC (lstJ xs (min xs.length 12))).drop 0).take (min xs.length 12 * 5) = ((lstJ xs (min xs.length 12)).flatMap En.ds).map .d := by
      rw [List.drop_zero, List.take_of_length_le (by omega)]; rfl
    have p1 : 0 + min xs.length 12 * 5 ≤ (eC (lstJ xs (min xs.length 12))).length := by omega
    simp only [deepV, deepV1, deepMax, deepC, ob?, if_true, if_pos p1, p2, mapO_d, Option.map_some]
end Mini
end Go.Proofs.YtgjlofpfbhioaaaGreatDoor
namespace Go.Proofs.YtgjlofpfbhioaaaGreatDoor
namespace Mini
open Go
variable {m : Int} {X : Ctx}
def exD (l : List Oid) : D := if l.length = 0 then .nils else slO l
theorem exD_is (l : List Oid) : isSet (exD l) l := by
  unfold exD
  split
  · rename_i h
    exact .inl ⟨rfl, List.length_eq_zero_iff.1 h⟩
  · exact .inr rfl
theorem f79 (hX : XOj m X) {N : Nat} (hN : 1 ≤ N) {w : D} {l : List Oid} (hw : isSet w l) (hl : wfS l) (hlen : l.length < 1000000) : vcallN X N 79 [.c (.d w)] = some (.c (.d (exD l))) := by
  obtain ⟨N, rfl⟩ : ∃ M, N = M + 1 := ⟨N - 1, by omega⟩
  have hF : fnsX 79 = some fn79' := rfl
  have hln := hw.len
  unfold exD
  by_cases c1 : l.length = 0
  · rw [if_pos c1]
    have g0 : ((l.length : Int) == 0) = true := by rw [beq_iff_eq]; omega
    refine vcall_of (r := .c (.d .nils)) (H := []) ?_ rfl
    rw [hX.fn hF]
    refine (rf_fin _ _ _ _ _ _ _ _ _ (by rfl)).trans ?_
    simp only [hln, g0, ↓sp_len, evs, Nat.reduceSub]
  · rw [if_neg c1]
    have g0 : ((l.length : Int) == 0) = false := by rw [beq_eq_false_iff_ne]; omega
    have hel := hw.elems hl
    have hfl : (flC l).length = l.length * 17 := flC_len hl
    have hfc : (l.flatMap oD).map C.d = flC l := rfl
    rw [hfc] at hel
    have k1 : l.length * 68 ≤ 1099511627776 := by omega
    have k2 : l.length ≤ 1099511627776 := by omega
    have hrl : (rep [C.d (.int .u8 0), C.d (.int .u32 0), C.d (.int .u32 0), C.d (.int .u32 0), C.d (.int .u32 0), C.d (.int .u32 0), C.d (.int .u32 0), C.d (.int .u32 0), C.d (.int .u32 0), C.d (.int .u32 0), C.d (.int .u32 0), C.d (.int .u32 0), C.d (.int .u32 0), C.d (.int .u32 0), C.d (.int .u32 0), C.d (.int .u32 0), C.d (.int .u32 0)] l.length).length = l.length * 17 := by rw [rep_len]; rfl
    have htk : (flC l).take (l.length * 17) = flC l := List.take_of_length_le (by omega)
    have hmin : min l.length l.length = l.length := Nat.min_self _
    refine vcall_of (r := .c (.os 0 0 0 l.length 17 (some l.length))) (H := [.cells (flC l) 0 false]) ?_ ?_
    · rw [hX.fn hF]
      refine (rf_fin _ _ _ _ _ _ _ _ _ (by rfl)).trans ?_
      generalize hrp : rep [C.d (.int .u8 0), C.d (.int .u32 0), C.d (.int .u32 0), C.d (.int .u32 0), C.d (.int .u32 0), C.d (.int .u32 0), C.d (.int .u32 0), C.d (.int .u32 0), C.d (.int .u32 0), C.d (.int .u32 0), C.d (.int .u32 0), C.d (.int .u32 0), C.d (.int .u32 0), C.d (.int .u32 0), C.d (.int .u32 0), C.d (.int .u32 0), C.d (.int .u32 0)] l.length = rp at *
      have hsp : splice rp 0 (flC l) = flC l := by
        unfold splice
        rw [List.take_zero, List.nil_append, Nat.zero_add, hfl, ← hrl, List.drop_length, List.append_nil]
      generalize flC l = fc at *
      simp only [hln, g0, k1, k2, hrp, hrl, hel, htk, hmin, hsp, Nat.le_refl, ob?, List.map_cons, List.map_nil, List.set_cons_zero, ↓sp_len, evs, Nat.reduceSub]
    · have p2 : ((flC l).drop 0).take (l.length * 17) = (l.flatMap oD).map .d := by
        rw [List.drop_zero, htk]; rfl
      have p1 : 0 + l.length * 17 ≤ (flC l).length := by omega
      simp only [deepV, deepV1, deepMax, deepC, ob?, if_true, if_pos p1, p2, mapO_d, Option.map_some]
      rfl
end Mini
end Go.Proofs.YtgjlofpfbhioaaaGreatDoor
namespace Go.Proofs.YtgjlofpfbhioaaaGreatDoor
namespace Mini
open Go
variable {m : Int} {X : Ctx}
def newE (e : En) : En := { e with w := exD e.l }
end Mini
end Go.Proofs.YtgjlofpfbhioaaaGreatDoor
namespace Go.Proofs.YtgjlofpfbhioaaaGreatDoor
namespace Mini
open Go
variable {m : Int} {X : Ctx}
theorem strLess_irr : ∀ a : List Nat, strLess a a = false
  | [] => rfl
  | c :: a => by simp [strLess, strLess_irr a]
theorem strLess_tri : ∀ {a b : List Nat}, strLess a b = false → strLess b a = false → a = b
  | [], [], _, _ => rfl
  | [], _ :: _, h, _ => by simp [strLess] at h
  | _ :: _, [], _, h => by simp [strLess] at h
  | c :: a, d :: b, h1, h2 => by
    simp only [strLess, Bool.or_eq_false_iff, decide_eq_false_iff_not, Bool.and_eq_false_iff, beq_eq_false_iff_ne, ne_eq] at h1 h2
    have hcd : c = d := by omega
    subst hcd
    rw [strLess_tri (h1.2.resolve_left fun h => h rfl) (h2.2.resolve_left fun h => h rfl)]
theorem strLess_trans : ∀ {a b c : List Nat}, strLess a b = true → strLess b c = true → strLess a c = true
  | _, [], _, h, _ => by simp [strLess] at h
  | _, _ :: _, [], _, h => by simp [strLess] at h
  | [], _ :: _, _ :: _, _, _ => rfl
  | x :: a, y :: b, z :: c, h1, h2 => by
    simp only [strLess, Bool.or_eq_true, decide_eq_true_eq, Bool.and_eq_true, beq_iff_eq] at h1 h2 ⊢
    rcases h1 with h1 | ⟨rfl, h1⟩ <;> rcases h2 with h2 | ⟨rfl, h2⟩
    · exact .inl (by omega)
    · exact .inl h1
    · exact .inl h2
    · exact .inr ⟨rfl, strLess_trans h1 h2⟩
def cmpS (a b : List Nat) : Int := if strLess a b then -1 else if strLess b a then 1 else 0
theorem cmpS_neg (a b : List Nat) : decide (cmpS a b < 0) = strLess a b := by
  unfold cmpS
  cases strLess a b with
  | true => rfl
  | false => cases strLess b a <;> rfl
theorem f106 (hX : XOr m X) {N : Nat} (hN : 1 ≤ N) (s : List Nat) : vcallN X N 106 [strV s] = some (bl false) := by
  obtain ⟨N, rfl⟩ : ∃ M, N = M + 1 := ⟨N - 1, by omega⟩
  refine vcall_of (r := bl false) (H := []) ?_ rfl
  rw [hX.fn (F := fn106') rfl]
  refine (rf_fin _ _ _ _ _ _ _ _ _ (by rfl)).trans ?_
  simp only [strV, binStr, beq_self_eq_true, Bool.not_true, evs, Nat.reduceSub]
theorem f82 (hX : XOr m X) {N : Nat} (hN : 10 ≤ N) (a b : List Nat) : vcallN X N 82 [strV a, strV b] = some (i64 (cmpS a b)) := by
  obtain ⟨N, rfl⟩ : ∃ M, N = M + 1 := ⟨N - 1, by omega⟩
  have h1 : ∀ s, (zenv X N).vcall 106 [strV s] = some (bl false) := fun s => hX.vc (k := 106) (F := fn106) rfl (f106 hX (by omega) s)
  simp only [strV, bl] at h1
  refine vcall_of (r := i64 (cmpS a b)) (H := []) ?_ rfl
  rw [hX.fn (F := fn82') rfl]
  refine (rf_fin _ _ _ _ _ _ _ _ _ (by rfl)).trans ?_
  unfold cmpS
  cases c1 : strLess a b with
  | true => simp only [strV, binStr, h1, c1, evs]
  | false =>
    cases c2 : strLess b a with
    | true =>
      have c3 : (a == b) = false := by
        rw [beq_eq_false_iff_ne]
        rintro rfl
        rw [strLess_irr] at c2
        cases c2
      simp only [strV, binStr, h1, c1, c3, Bool.or_self, Bool.not_false, evs]
    | false =>
      have c3 : (a == b) = true := by rw [beq_iff_eq]; exact strLess_tri c1 c2
      simp only [strV, binStr, h1, c1, c3, Bool.or_true, Bool.not_true, evs]
theorem nx1 {α : Type} (H : List α) (a b : α) : (H ++ [a, b])[H.length]? = some a := by
  rw [List.getElem?_append_right (Nat.le_refl _), Nat.sub_self]; rfl
theorem nx2 {α : Type} (H : List α) (a b : α) : (H ++ [a, b])[H.length + 1]? = some b := by
  rw [List.getElem?_append_right (by omega), show H.length + 1 - H.length = 1 by omega]; rfl
theorem c81 (hX : XOr m X) {N : Nat} (hN : 20 ≤ N) (a b : En) (H : Heap) : callN X N (.d (.fn 81 [] [])) [.agg (a.ds.map .d), .agg (b.ds.map .d)] H = some (i64 (cmpS a.s b.s), H ++ [.cells (a.ds.map .d) 0 false, .cells (b.ds.map .d) 0 false]) := by
  obtain ⟨N, rfl⟩ : ∃ M, N = M + 1 := ⟨N - 1, by omega⟩
  have h1 : (zenv X N).vcall 82 [strV a.s, strV b.s] = some (i64 (cmpS a.s b.s)) := hX.vc (k := 82) (F := fn82) rfl (f82 hX (by omega) a.s b.s)
  simp only [strV, i64] at h1
  rw [hX.fn (F := fn81') rfl]
  refine (rf_fin _ _ _ _ _ _ _ _ _ (by rfl)).trans ?_
  have n1 := nx1 H (.cells (a.ds.map .d) 0 false) (.cells (b.ds.map .d) 0 false)
  have n2 := nx2 H (.cells (a.ds.map .d) 0 false) (.cells (b.ds.map .d) 0 false)
  simp only [En.ds, List.map_cons, List.map_nil] at n1 n2 ⊢
  simp only [h1, n1, n2, List.append_assoc, List.length_append, List.take, List.drop, evs, Nat.reduceAdd, Nat.reduceSub]
end Mini
end Go.Proofs.YtgjlofpfbhioaaaGreatDoor
