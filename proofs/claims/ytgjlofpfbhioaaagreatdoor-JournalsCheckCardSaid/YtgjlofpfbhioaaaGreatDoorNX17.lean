/-
  JournalsCheck: texts of the proof, part 18.
-/
import Derived.Test.YtgjlofpfbhioaaaGreatDoorNX16
import Derived.KernelRfl
namespace Go.Proofs.YtgjlofpfbhioaaaGreatDoor
namespace Mini
open Go
theorem en47 : Form 47 fn47 := ⟨⟨Tryz.f47, by kernel_rfl, by kernel_rfl, by kernel_rfl⟩, Tryz.f47, by kernel_rfl, ok47⟩
theorem en80 : Form 80 fn80 := ⟨⟨Tryz.f80, by kernel_rfl, by kernel_rfl, by kernel_rfl⟩, Tryz.f80, by kernel_rfl, ok80⟩
theorem en81 : Form 81 fn81 := ⟨⟨Tryz.f81, by kernel_rfl, by kernel_rfl, by kernel_rfl⟩, Tryz.f81, by kernel_rfl, ok81⟩
theorem en82 : Form 82 fn82 := ⟨⟨Tryz.f82, by kernel_rfl, by kernel_rfl, by kernel_rfl⟩, Tryz.f82, by kernel_rfl, ok82⟩
theorem en104 : Form 104 fn104 := ⟨⟨Tryz.f104, by kernel_rfl, by kernel_rfl, by kernel_rfl⟩, Tryz.f104, by kernel_rfl, ok104⟩
theorem en105 : Form 105 fn105 := ⟨⟨Tryz.f105, by kernel_rfl, by kernel_rfl, by kernel_rfl⟩, Tryz.f105, by kernel_rfl, ok105⟩
theorem en106 : Form 106 fn106 := ⟨⟨Tryz.f106, by kernel_rfl, by kernel_rfl, by kernel_rfl⟩, Tryz.f106, by kernel_rfl, ok106⟩
theorem en125 : Form 125 fn125 := ⟨⟨Tryz.f125, by kernel_rfl, by kernel_rfl, by kernel_rfl⟩, Tryz.f125, by kernel_rfl, ok125⟩
theorem en133 : Form 133 fn133 := ⟨⟨Tryz.f133, by kernel_rfl, by kernel_rfl, by kernel_rfl⟩, Tryz.f133, by kernel_rfl, ok133⟩
theorem en134 : Form 134 fn134 := ⟨⟨Tryz.f134, by kernel_rfl, by kernel_rfl, by kernel_rfl⟩, Tryz.f134, by kernel_rfl, ok134⟩
theorem fnsR_ok (f : FuncId) (F : Fn) (h : fnsR f = some F) : Form f F := by
  unfold fnsR at h
  split at h
  · cases h; exact en47
  · cases h; exact en80
  · cases h; exact en81
  · cases h; exact en82
  · cases h; exact en104
  · cases h; exact en105
  · cases h; exact en106
  · cases h; exact en125
  · cases h; exact en133
  · cases h; exact en134
  · cases h
end Mini
end Go.Proofs.YtgjlofpfbhioaaaGreatDoor
namespace Go.Proofs.YtgjlofpfbhioaaaGreatDoor
namespace Mini
open Go
def fnsZ (f : FuncId) : Option Fn := match fnsR f with
  | some F => some F
  | none => fnsX f
theorem fnsZ_ok (f : FuncId) (F : Fn) (h : fnsZ f = some F) : Form f F := by
  unfold fnsZ at h
  split at h
  · rename_i G hG
    cases h
    exact fnsR_ok f _ hG
  · exact fnsX_ok f F h
def XR (m : Int) : Ctx := ⟨fnsZ, primJ, hprim0, fun _ _ _ => none, glob0 m⟩
theorem XR_ok (m : Int) : CtxOk Tryz.prog (XR m) := ⟨fnsZ_ok, fun _ _ _ h => primJ_ok h, fun _ _ _ _ _ h => hprim0_ok h⟩
theorem fns_apartZ {f : FuncId} {F : Fn} (h : fnsR f = some F) : fnsX f = none := by
  unfold fnsR at h
  split at h <;> first | rfl | cases h
theorem XJ_leR (m : Int) : CtxLe (XJ m) (XR m) where
  fns := fun {f F} h => by
    show fnsZ f = some F
    unfold fnsZ
    cases hR : fnsR f with
    | none => exact h
    | some G => exact absurd (show fnsX f = some F from h) (by rw [fns_apartZ hR]; exact fun h => by cases h)
  prim := fun h => h
  npr := fun _ _ h => h
  hprim := fun {f vs H r} h1 h2 => by
    have h2' : hprim0 f vs H = some r := h2
    have h3 : f = 138 := by
      unfold hprim0 at h2'
      split at h2'
      · exact rfl
      · cases h2'
    rcases h3 with rfl <;> exact ⟨rfl, h2, fun vs h => h⟩
  bprim := fun h => by cases h
  glob := rfl
def XOr (m : Int) (X : Ctx) : Prop := CtxLe (XR m) X
theorem XOr.j {m : Int} {X : Ctx} (h : XOr m X) : XOj m X := CtxLe.trans (XJ_leR m) h
theorem XROr (m : Int) : XOr m (XR m) := CtxLe.refl _
theorem primJ_noneR {k : FuncId} {F : Fn} (hk : fnsZ k = some F) (vs : List V) : primJ k vs = none := by
  unfold primJ
  split
  · cases hk
  · unfold fnsZ at hk
    split at hk
    · rename_i h
      unfold fnsR at h
      split at h <;> first | rfl | cases h
    · have := primJ_none hk vs
      unfold primJ at this
      split at this
      · exact absurd rfl ‹_›
      · exact this
theorem XOr.fn {m : Int} {X : Ctx} (h : XOr m X) {k : FuncId} {F : Fn} (hk : fnsZ k = some F) {n : Nat} {args : List V} {H : Heap} : callN X (n + 1) (.d (.fn k [] [])) args H = runFn (zenv X n) n F args H := callN_fn (CtxLe.fns (X := XR m) h hk)
theorem XOr.vc {m : Int} {X : Ctx} (h : XOr m X) {k : FuncId} {F : Fn} (hk : fnsZ k = some F) {n : Nat} {vs : List V} {r : V} (hr : vcallN X n k vs = some r) : (zenv X n).vcall k vs = some r := zenv_vcall (CtxLe.npr (X := XR m) h hk vs (primJ_noneR hk vs)) hr
theorem XOr.run {m : Int} {X : Ctx} (h : XOr m X) {n n' : Nat} {f : FuncId} {vs : List V} {r : V} (hr : vcallN (XR m) n f vs = some r) (hn : n ≤ n') : vcallN X n' f vs = some r := vcallN_le h hn hr
end Mini
end Go.Proofs.YtgjlofpfbhioaaaGreatDoor
namespace Go.Proofs.YtgjlofpfbhioaaaGreatDoor
namespace Mini
open Go
variable {m : Int} {X : Ctx}
def arcsO (o : Oid) : List Nat := o.2.take o.1
theorem arcsO_len {o : Oid} (h : wfO o) : (arcsO o).length = min o.1 16 := by simp [arcsO, h.2.1]
theorem mapO_d (H : Heap) (k : Nat) : ∀ ds : List D, mapO (deepC H k) (ds.map .d) = some ds
  | [] => rfl
  | x :: ds => by
    have h1 : deepC H k (.d x) = some x := by cases k <;> rfl
    simp only [List.map_cons, mapO, h1, mapO_d H k ds]
theorem oC_arcs {o : Oid} (h : wfO o) : ((oC o).drop 1).take (min o.1 16 * 1) = ((arcsO o).map u32D).map .d := by
  have : (oC o).drop 1 = (o.2.map u32D).map .d := rfl
  rw [this, Nat.mul_one, arcsO, ← List.map_take, ← List.map_take]
  congr 2
  rw [← h.2.1, List.take_eq_take_iff]
  omega
theorem deep_arcs {H : Heap} {id : Nat} {o : Oid} {f : Bool} {c : Option Nat} (h : wfO o) (hH : ob? H id = some (.cells (oC o) 0 f)) : deepC H deepMax (.os id 0 1 (min o.1 16) 1 c) = some (.sl ((arcsO o).map u32D) (min o.1 16)) := by
  have hl : 1 + min o.1 16 * 1 ≤ (oC o).length := by rw [oC_len h]; omega
  simp only [deepMax, deepC, hH, if_true, if_pos hl, oC_arcs h, mapO_d, Option.map_some]
theorem f86 (hX : XOk m X) {N : Nat} (hN : 1 ≤ N) {o : Oid} (h : wfO o) {H : Heap} {id : Nat} {f : Bool} (hH : H[id]? = some (.cells (oC o) 0 f)) : callN X N (.d (.fn 86 [] [])) [.c (.ptr id 0 0)] H = some (.c (.os id 0 1 (min o.1 16) 1 (some 16)), H) := by
  obtain ⟨N, rfl⟩ : ∃ M, N = M + 1 := ⟨N - 1, by omega⟩
  rw [hX.fn (F := fn86) rfl]
  refine (rf_fin _ _ _ _ _ _ _ _ _ (by rfl)).trans ?_
  have h0 := oC_n (o := o)
  have h1 : IntKind.i64.wrap (o.1 : Int) = (o.1 : Int) := wrap_nat (by have := h.1; omega)
  have h2 : (if (16 : Int) < (o.1 : Int) then (16 : Int) else (o.1 : Int)) = ((min o.1 16 : Nat) : Int) := by
    by_cases c : (16 : Int) < (o.1 : Int)
    · rw [if_pos c]; omega
    · rw [if_neg c]; omega
  have hl := oC_len h
  have h3 : min o.1 16 ≤ 16 := Nat.min_le_right _ _
  simp only [hH, h0, h1, h2, h3, hl, optNat, Option.map_none, Nat.zero_le, Nat.le_refl, Nat.sub_zero, evs, Nat.reduceAdd, Nat.reduceSub]
def cmpO (a b : Oid) : Int := cmpL (arcsO a) (arcsO b)
theorem f54 (hX : XOk m X) {N : Nat} (hN : 30 ≤ N) {a b : Oid} (ha : wfO a) (hb : wfO b) : vcallN X N 54 [.agg (oC a), .agg (oC b)] = some (i64 (cmpO a b)) := by
  obtain ⟨N, rfl⟩ : ∃ M, N = M + 1 := ⟨N - 1, by omega⟩
  refine vcall_of (r := i64 (cmpO a b)) (H := [.cells (oC a) 0 false, .cells (oC b) 0 false]) ?_ rfl
  rw [hX.fn (F := fn54) rfl]
  refine (rf_fin _ _ _ _ _ _ _ _ _ (by rfl)).trans ?_
  have hla := arcsO_len ha
  have hlb := arcsO_len hb
  have h1 := f86 hX (N := N) (by omega) ha (H := [.cells (oC a) 0 false, .cells (oC b) 0 false]) (id := 0) rfl
  have h2 := f86 hX (N := N) (by omega) hb (H := [.cells (oC a) 0 false, .cells (oC b) 0 false]) (id := 1) rfl
  have h3 := deep_arcs ha (H := [.cells (oC a) 0 false, .cells (oC b) 0 false]) (id := 0) (c := some 16) rfl
  have h4 := deep_arcs hb (H := [.cells (oC a) 0 false, .cells (oC b) 0 false]) (id := 1) (c := some 16) rfl
  have h5 := hX.vc (k := 85) (F := fn85) rfl (f85 hX (N := N) (a := arcsO a) (b := arcsO b) (by omega) (by omega))
  simp only [slU, hla, hlb, i64] at h5
  simp only [h1, h2, h3, h4, h5, cmpO, List.map_cons, List.map_nil, evs, Nat.reduceAdd, Nat.reduceSub]
end Mini
end Go.Proofs.YtgjlofpfbhioaaaGreatDoor
namespace Go.Proofs.YtgjlofpfbhioaaaGreatDoor
namespace Mini
open Go
variable {m : Int} {X : Ctx}
theorem iter_find {js : Option (List Nat)} {hl : Nat} {body : St → Option (Ex × St)} (p : Nat → Prop) [DecidablePred p] (n : Nat) (R : Nat → St) {b : Nat} {s1 : St} {Q : Nat → St → Prop} {fuel : Nat} (hf : n < fuel)
    (hround : ∀ j, j < n → ¬ p j → ∃ s', body (R j) = some (.nrm, s') ∧ tidy hl js s' = R (j + 1))
    (hend : body (R n) = some (.exit b, s1)) (hhit : ∀ k, k < n → p k → ∃ s', body (R k) = some (.ret, s') ∧ Q k s') :
    ((∀ j, j < n → ¬ p j) ∧ iter js hl body fuel (R 0) = some (.exit b, s1)) ∨ ∃ k s', k < n ∧ p k ∧ (∀ j, j < k → ¬ p j) ∧ Q k s' ∧ iter js hl body fuel (R 0) = some (.ret, s') := by
  rcases first_lt p n with h | ⟨k, h1, h2, h3⟩
  · refine .inl ⟨h, iter_to R (by simp) n 0 fuel (fun j _ hj => hround j (by omega) (h j (by omega))) (by rw [Nat.zero_add]; exact hend) hf⟩
  · obtain ⟨s', h4, h5⟩ := hhit k h1 h2
    exact .inr ⟨k, s', h1, h2, h3, h5, iter_to R (by simp) k 0 fuel (fun j _ hj => hround j (by omega) (h3 j (by omega))) (by rw [Nat.zero_add]; exact h4) (by omega)⟩
def firstE (f : Nat → Nat) : Nat → Nat
  | 0 => 0
  | n + 1 => if firstE f n ≠ 0 then firstE f n else f n
theorem firstE_none (f : Nat → Nat) : ∀ n, (∀ j, j < n → ¬ f j ≠ 0) → firstE f n = 0
  | 0, _ => rfl
  | n + 1, h => by
    rw [firstE, firstE_none f n (fun j hj => h j (by omega)), if_neg (by simp)]
    exact Decidable.not_not.1 (h n (by omega))
theorem firstE_hit (f : Nat → Nat) {k : Nat} (hk : f k ≠ 0) (h : ∀ j, j < k → ¬ f j ≠ 0) : ∀ n, k < n → firstE f n = f k
  | 0, h0 => absurd h0 (Nat.not_lt_zero k)
  | n + 1, h0 => by
    rcases Nat.lt_succ_iff_lt_or_eq.1 h0 with h1 | rfl
    · rw [firstE, firstE_hit f hk h n h1, if_pos hk]
    · rw [firstE, firstE_none f k h, if_neg (by simp)]
def o0 : Oid := (0, List.replicate 16 0)
def slO (l : List Oid) : D := .sl (l.flatMap oD) l.length
def isSet (w : D) (l : List Oid) : Prop := w = .nils ∧ l = [] ∨ w = slO l
def wfS (l : List Oid) : Prop := ∀ o ∈ l, wfO o
theorem wfS.at {l : List Oid} (h : wfS l) {i : Nat} (hi : i < l.length) : wfO (l.getD i o0) := by
  rw [List.getD_eq_getElem?_getD, List.getElem?_eq_getElem hi]
  exact h _ (List.getElem_mem hi)
theorem isSet.len {w : D} {l : List Oid} (h : isSet w l) : lenc (.c (.d w)) = some (.c (.d (.int .i64 (l.length : Int))), []) := by
  rcases h with ⟨rfl, rfl⟩ | rfl <;> rfl
theorem flatO_len {l : List Oid} (h : wfS l) : (l.flatMap oD).length = l.length * 17 := by
  induction l with
  | nil => rfl
  | cons o l ih => rw [List.flatMap_cons, List.length_append, oD_len (h o List.mem_cons_self), ih (fun x hx => h x (List.mem_cons_of_mem _ hx)), List.length_cons]; omega
theorem flatO_at : ∀ {l : List Oid} (_ : wfS l) {i : Nat} (_ : i < l.length), ((l.flatMap oD).drop (i * 17)).take 17 = oD (l.getD i o0)
  | o :: l, h, 0, _ => by
    rw [List.flatMap_cons, Nat.zero_mul, List.drop_zero, List.take_append_of_le_length (by rw [oD_len (h o List.mem_cons_self)]; exact Nat.le_refl _), List.take_of_length_le (by rw [oD_len (h o List.mem_cons_self)]; exact Nat.le_refl _)]
    rfl
  | o :: l, h, i + 1, hi => by
    have h1 := oD_len (h o List.mem_cons_self)
    have : (i + 1) * 17 = (oD o).length + i * 17 := by rw [h1]; omega
    rw [List.flatMap_cons, this, ← List.drop_drop, List.drop_left]
    exact flatO_at (fun x hx => h x (List.mem_cons_of_mem _ hx)) (by simpa using hi)
theorem isSet.at {w : D} {l : List Oid} (h : isSet w l) (hl : wfS l) {i : Nat} (hi : i < l.length) : ixac 17 i (.c (.d w)) = some (.c (.d (.ip ((l.flatMap oD).drop (i * 17)))), []) := by
  rcases h with ⟨rfl, rfl⟩ | rfl
  · cases hi
  · rw [slO, ixac, if_pos ⟨hi, by rw [flatO_len hl]; omega⟩]
theorem isSet.elems {w : D} {l : List Oid} (h : isSet w l) (hl : wfS l) (H : Heap) : elems H 17 (.c (.d w)) = some (l.length, (l.flatMap oD).map .d) := by
  rcases h with ⟨rfl, rfl⟩ | rfl
  · rfl
  · simp only [slO, Mini.elems, if_pos (flatO_len hl)]
def errAt (l : List Oid) (i : Nat) : Nat :=
  if chkO (l.getD i o0) ≠ 0 then chkO (l.getD i o0)
  else if i = 0 then 0
  else if cmpO (l.getD (i - 1) o0) (l.getD i o0) = 0 then 14
  else if cmpO (l.getD (i - 1) o0) (l.getD i o0) > 0 then 13 else 0
def chkS (l : List Oid) : Nat := if 256 < l.length then 3 else firstE (errAt l) l.length
abbrev R19 (w : D) (l : List Oid) (i : Nat) : List V := [.c (.d w), .any, .any, .any, .any, .any, .any, .c (.d w), i64 (l.length : Int), i64 (i : Int), .any, .any, .any, .any, .any]
theorem f19 (hX : XOk m X) {N : Nat} (hN : 300 ≤ N) {w : D} {l : List Oid} (hw : isSet w l) (hl : wfS l) (hlen : l.length < 1000000) : vcallN X N 19 [.c (.d w)] = some (i64 (chkS l)) := by
  obtain ⟨N, rfl⟩ : ∃ M, N = M + 1 := ⟨N - 1, by omega⟩
  have hF : fnsA 19 = some fn19' := rfl
  suffices h : ∃ H, callN X (N + 1) (.d (.fn 19 [] [])) [.c (.d w)] [] = some (i64 (chkS l), H) by
    obtain ⟨H, h⟩ := h
    exact vcall_of h rfl
  rw [hX.fn hF]
  have hlw := hw.len
  by_cases c0 : (l.length : Int) > 256
  · refine ⟨[], (rf_fin _ _ _ _ _ _ _ _ _ (by rfl)).trans ?_⟩
    have : chkS l = 3 := by unfold chkS; rw [if_pos (by omega)]
    simp only [hlw, c0, this, Int.cast_ofNat_Int, ↓sp_len, evs, Nat.reduceSub]
  have hd : ∀ o : Oid, List.map C.d (oD o) = oC o := fun _ => rfl
  have hm : ∀ (H : Heap) (o : Oid), mapO (deepC H deepMax) (oC o) = some (oD o) := fun H o => mapO_d H _ _
  have hc : ∀ o, wfO o → (zenv X N).vcall 53 [.agg (oC o)] = some (i64 (chkO o)) := fun o ho => hX.vc (k := 53) (F := fn53) rfl (chkO_ok (hX.fns _ _ rfl) ho (by omega))
  have hcm : ∀ a b, wfO a → wfO b → (zenv X N).vcall 54 [.agg (oC a), .agg (oC b)] = some (i64 (cmpO a b)) := fun a b ha hb => hX.vc (k := 54) (F := fn54) rfl (f54 hX (by omega) ha hb)
  simp only [i64] at hc hcm
  have hsc := iter_find (js := some [0, 7, 8, 9]) (hl := 0) (body := exec (zenv X N) N false fn19L0) (fun j => errAt l j ≠ 0) l.length (fun i => ⟨R19 w l i, []⟩) (b := 0) (s1 := ⟨[.c (.d w), .any, .any, .any, .any, .any, .any, .c (.d w), i64 (l.length : Int), i64 (l.length : Int), bl false, .any, .any, .any, .any], []⟩) (Q := fun k s => nth s.regs 1 = i64 (errAt l k) ∧ s.regs.length = 15) (fuel := N) (by omega)
    (by
      intro j hj hp
      have ho := hl.at hj
      have h1 := hw.at hl hj
      have h2 := flatO_at hl hj
      have h3 := hc _ ho
      have h4 : (j : Int) < (l.length : Int) := by omega
      have h5 := wrap_succ (k := j) (by omega)
      have h6 := oC_len ho
      generalize ho' : l.getD j o0 = o at *
      have hz : chkO o = 0 := by
        unfold errAt at hp; rw [ho'] at hp
        by_cases hz : chkO o = 0
        · exact hz
        · rw [if_pos hz] at hp; exact absurd hz hp
      simp only [hz, Int.natCast_zero] at h3
      by_cases hj0 : j = 0
      · have h7 : ((j : Int) == 0) = true := by subst hj0; rfl
        refine ⟨⟨[.c (.d w), .any, i64 (j : Int), .c (.ptr 0 0 0), i64 0, .any, .any, .c (.d w), i64 (l.length : Int), i64 ((j + 1 : Nat) : Int), bl true, bl false, bl true, .any, .any], [.cells (oC o) 0 false]⟩, ?_, gc_yes rfl rfl⟩
        simp only [fn19L0, ob?, h1, h2, h3, h4, h5, h6, h7, hd, hm, List.drop_zero, List.take_of_length_le (Nat.le_of_eq h6), ↓sp_ixa, evs]
      · have h7 : ((j : Int) == 0) = false := by rw [beq_eq_false_iff_ne]; omega
        have h8 : IntKind.i64.wrap ((j : Int) - 1) = ((j - 1 : Nat) : Int) := by rw [← wrap_nat (k := j - 1) (by omega)]; congr 1; omega
        have hp9 : wfO (l.getD (j - 1) o0) := hl.at (by omega)
        have h9 := hw.at hl (i := j - 1) (by omega)
        have h10 := flatO_at hl (i := j - 1) (by omega)
        have h11 := hcm _ _ hp9 ho
        have h12 := oC_len hp9
        unfold errAt at hp
        rw [ho', if_neg (by rw [hz]; simp), if_neg hj0] at hp
        generalize l.getD (j - 1) o0 = q at *
        generalize cmpO q o = c at *
        have hq : c < 0 := by
          by_cases c1 : c = 0
          · rw [if_pos c1] at hp; simp at hp
          rw [if_neg c1] at hp
          by_cases c2 : c > 0
          · rw [if_pos c2] at hp; simp at hp
          · omega
        have h13 : (c == 0) = false := by rw [beq_eq_false_iff_ne]; omega
        have h14 : ¬ c > 0 := by omega
        refine ⟨⟨[.c (.d w), .any, i64 (j : Int), .c (.ptr 0 0 0), i64 0, i64 c, .any, .c (.d w), i64 (l.length : Int), i64 ((j + 1 : Nat) : Int), bl true, bl false, bl false, bl false, bl false], [.cells (oC o) 0 false]⟩, ?_, gc_yes rfl rfl⟩
        simp only [fn19L0, ob?, h1, h2, h3, h4, h5, h6, h7, h8, h9, h10, h11, h12, h13, h14, hd, hm, List.drop_zero, List.take_of_length_le (Nat.le_of_eq h6), ↓sp_ixa, evs])
    (by simp only [fn19L0, evs])
    (by
      intro j hj hp
      have ho := hl.at hj
      have h1 := hw.at hl hj
      have h2 := flatO_at hl hj
      have h3 := hc _ ho
      have h4 : (j : Int) < (l.length : Int) := by omega
      have h6 := oC_len ho
      unfold errAt at hp ⊢
      generalize l.getD j o0 = o at *
      by_cases hz : chkO o = 0
      · simp only [hz, Int.natCast_zero] at h3
        rw [if_neg (by rw [hz]; simp)] at hp ⊢
        have hj0 : ¬ j = 0 := fun h => by rw [if_pos h] at hp; exact hp rfl
        rw [if_neg hj0] at hp ⊢
        have h7 : ((j : Int) == 0) = false := by rw [beq_eq_false_iff_ne]; omega
        have h8 : IntKind.i64.wrap ((j : Int) - 1) = ((j - 1 : Nat) : Int) := by rw [← wrap_nat (k := j - 1) (by omega)]; congr 1; omega
        have hp9 : wfO (l.getD (j - 1) o0) := hl.at (by omega)
        have h9 := hw.at hl (i := j - 1) (by omega)
        have h10 := flatO_at hl (i := j - 1) (by omega)
        have h11 := hcm _ _ hp9 ho
        have h12 := oC_len hp9
        generalize l.getD (j - 1) o0 = q at *
        generalize cmpO q o = c at *
        by_cases c1 : c = 0
        · subst c1
          have h13 : ((0 : Int) == 0) = true := rfl
          rw [if_pos rfl]
          refine ⟨⟨[.c (.d w), i64 14, i64 (j : Int), .c (.ptr 0 0 0), i64 0, i64 0, .any, .c (.d w), i64 (l.length : Int), i64 (j : Int), bl true, bl false, bl false, bl true, .any], [.cells (oC o) 0 false]⟩, ?_, rfl, rfl⟩
          simp only [fn19L0, ob?, h1, h2, h3, h4, h6, h7, h8, h9, h10, h11, h12, h13, hd, hm, List.drop_zero, List.take_of_length_le (Nat.le_of_eq h6), ↓sp_ixa, evs]
        · rw [if_neg c1] at hp ⊢
          have c2 : c > 0 := Decidable.byContradiction fun h => by rw [if_neg h] at hp; exact hp rfl
          have h13 : (c == 0) = false := by rw [beq_eq_false_iff_ne]; omega
          rw [if_pos c2]
          refine ⟨⟨[.c (.d w), i64 13, i64 (j : Int), .c (.ptr 0 0 0), i64 0, i64 c, .any, .c (.d w), i64 (l.length : Int), i64 (j : Int), bl true, bl false, bl false, bl false, bl true], [.cells (oC o) 0 false]⟩, ?_, rfl, rfl⟩
          simp only [fn19L0, ob?, h1, h2, h3, h4, h6, h7, h8, h9, h10, h11, h12, h13, c2, hd, hm, List.drop_zero, List.take_of_length_le (Nat.le_of_eq h6), ↓sp_ixa, evs]
      · rw [if_pos hz]
        have h7 : ((chkO o : Int) != 0) = true := by rw [bne_iff_ne]; omega
        refine ⟨⟨[.c (.d w), i64 (chkO o), i64 (j : Int), .c (.ptr 0 0 0), i64 (chkO o), .any, .any, .c (.d w), i64 (l.length : Int), i64 (j : Int), bl true, bl true, .any, .any, .any], [.cells (oC o) 0 false]⟩, ?_, rfl, rfl⟩
        simp only [fn19L0, ob?, h1, h2, h3, h4, h6, h7, hd, hm, List.drop_zero, List.take_of_length_le (Nat.le_of_eq h6), ↓sp_ixa, evs])
  have hck : chkS l = firstE (errAt l) l.length := by unfold chkS; rw [if_neg (by omega)]
  simp only [R19, i64, bl, Int.natCast_zero] at hsc
  rcases hsc with ⟨hno, hit⟩ | ⟨k, s', hk, hp, hno, ⟨hq, hq2⟩, hit⟩
  · rw [hck, firstE_none _ _ hno]
    refine ⟨[], (rf_fin _ _ _ _ _ _ _ _ _ (by rfl)).trans ?_⟩
    simp only [hlw, c0, hit, Int.natCast_zero, ↓sp_len, evs, Nat.reduceAdd, Nat.reduceBEq, Nat.reduceSub]
  · rw [hck, firstE_hit _ hp hno _ hk]
    refine ⟨s'.heap, (rf_fin _ _ _ _ _ _ _ _ _ (by rfl)).trans ?_⟩
    obtain ⟨r, H⟩ := s'
    simp only [] at hq
    simp only [hlw, c0, hit, hq, ↓sp_len, evs, Nat.reduceAdd, Nat.reduceBEq, Nat.reduceSub]
end Mini
end Go.Proofs.YtgjlofpfbhioaaaGreatDoor
namespace Go.Proofs.YtgjlofpfbhioaaaGreatDoor
namespace Mini
open Go
variable {m : Int} {X : Ctx}
def anyO : Oid := (5, [2, 5, 29, 32, 0, 0, 0, 0, 0, 0, 0, 0, 0, 0, 0, 0])
theorem any_run (m : Int) : vcallN (XA m) 40 83 [] = some (.agg (oC anyO)) := by
  rw [← vcallF_eq]
  kernel_rfl
theorem f83 (hX : XOk m X) {N : Nat} (hN : 40 ≤ N) : vcallN X N 83 [] = some (.agg (oC anyO)) := hX.run (any_run m) hN
theorem eqInts_cons (k : IntKind) (a b : Int) (xs ys : List C) (r : Bool) (h : eqInts xs ys = some r) : eqInts (.d (.int k a) :: xs) (.d (.int k b) :: ys) = some (a == b && r) := by
  rw [eqInts, if_pos rfl, h]
theorem beq_dec (x y : Nat) : ((x : Int) == (y : Int)) = decide (x = y) := by
  rw [Bool.eq_iff_iff, beq_iff_eq, decide_eq_true_eq]
  omega
theorem eqInts_u : ∀ (a b : List Nat), a.length = b.length → eqInts ((a.map u32D).map .d) ((b.map u32D).map .d) = some (decide (a = b))
  | [], [], _ => rfl
  | x :: a, y :: b, h => by
    refine (eqInts_cons .u32 x y _ _ _ (eqInts_u a b (by simpa using h))).trans ?_
    rw [beq_dec, ← Bool.decide_and]
    congr 1
    rw [decide_eq_decide, List.cons.injEq]
  | [], _ :: _, h => by cases h
  | _ :: _, [], h => by cases h
theorem eqO {a b : Oid} (ha : wfO a) (hb : wfO b) : eqInts (oC a) (oC b) = some (decide (a = b)) := by
  refine (eqInts_cons .u8 a.1 b.1 _ _ _ (eqInts_u a.2 b.2 (by rw [ha.2.1, hb.2.1]))).trans ?_
  rw [beq_dec, ← Bool.decide_and]
  congr 1
  rw [decide_eq_decide, Prod.ext_iff]
theorem getD_mem {l : List Oid} {i : Nat} (h : i < l.length) : l.getD i o0 ∈ l := by
  rw [List.getD_eq_getElem?_getD, List.getElem?_eq_getElem h]
  exact List.getElem_mem h
theorem mem_getD {l : List Oid} {o : Oid} (h : o ∈ l) : ∃ i, i < l.length ∧ l.getD i o0 = o := by
  obtain ⟨i, hi, rfl⟩ := List.getElem_of_mem h
  exact ⟨i, hi, by rw [List.getD_eq_getElem?_getD, List.getElem?_eq_getElem hi]; rfl⟩
end Mini
end Go.Proofs.YtgjlofpfbhioaaaGreatDoor
namespace Go.Proofs.YtgjlofpfbhioaaaGreatDoor
namespace Mini
open Go
variable {m : Int} {X : Ctx}
def flC (l : List Oid) : List C := (l.flatMap oD).map .d
theorem flC_len {l : List Oid} (h : wfS l) : (flC l).length = l.length * 17 := by rw [flC, List.length_map, flatO_len h]
theorem rep_len (z : List C) : ∀ n, (rep z n).length = n * z.length
  | 0 => by simp [rep]
  | n + 1 => by rw [rep, List.length_append, rep_len z n, Nat.succ_mul, Nat.add_comm]
abbrev zC : List C := [.d (.int .u8 0), .d (.int .u32 0), .d (.int .u32 0), .d (.int .u32 0), .d (.int .u32 0), .d (.int .u32 0), .d (.int .u32 0), .d (.int .u32 0), .d (.int .u32 0), .d (.int .u32 0), .d (.int .u32 0), .d (.int .u32 0), .d (.int .u32 0), .d (.int .u32 0), .d (.int .u32 0), .d (.int .u32 0), .d (.int .u32 0)]
theorem lay1 {o : Oid} (h : wfO o) : lay (rep zC 1) [(0, 17, .agg (oC o))] = some (oC o) := by
  have h1 := oC_len h
  have h2 : (rep zC 1).length = 17 := rfl
  simp only [lay, V.cells, h1, h2, splice, Nat.zero_add, Nat.le_refl, and_self, if_true, List.take_zero, List.nil_append, List.drop_of_length_le (Nat.le_of_eq h2), List.append_nil]
theorem oC_flat (o : Oid) : (oC o).all C.flat = true := by
  rw [List.all_eq_true]
  intro c hc
  simp only [oC, oD, List.map_cons, List.mem_cons, List.mem_map] at hc
  rcases hc with rfl | ⟨d, ⟨x, _, rfl⟩, rfl⟩ <;> rfl
theorem tidy_back {H t : Heap} {js : List Nat} {regs r : List V} {hl : Nat} (hn : hl = H.length) (hr : keepOnly js 0 regs = r) (h1 : r.all (V.under H.length) = true) (h2 : Hp H.length H) : tidy hl (some js) ⟨regs, H ++ t⟩ = ⟨r, H⟩ := by
  subst hr
  exact gc_back hl hn h1 h2
def frn (x : V) (j sz : Nat) (regs : List V) (H : Heap) : St :=
  match x with
  | .c (.d .nils) => ⟨put regs j (.c (.os H.length 0 0 0 sz none)), H ++ [.cells [] 0 false]⟩
  | _ => ⟨regs, H⟩
theorem ex_fresh (E : Env) (N : Nat) (rd : Bool) (j sz : Nat) (regs : List V) (H : Heap) : exec E N rd (.fresh j none sz) ⟨regs, H⟩ = some (.nrm, frn (nth regs j) j sz regs H) := by
  have : exec E N rd (.fresh j none sz) ⟨regs, H⟩ = some (.nrm, freshen j none sz ⟨regs, H⟩) := rfl
  rw [this]
  rfl
theorem flC_app (a b : List Oid) : flC (a ++ b) = flC a ++ flC b := by simp [flC]
theorem flC_one (o : Oid) : flC [o] = oC o := by simp [flC, oC]
end Mini
end Go.Proofs.YtgjlofpfbhioaaaGreatDoor
namespace Go.Proofs.YtgjlofpfbhioaaaGreatDoor
namespace Mini
open Go
variable {m : Int} {X : Ctx}
theorem f20 (hX : XOk m X) {N : Nat} {w w' : D} {l l' : List Oid} (hN : l.length + 5 ≤ N) (hw : isSet w l) (hw' : isSet w' l') (hl : wfS l) (hl' : wfS l') (hlen : l.length < 1000000) : vcallN X N 20 [.c (.d w), .c (.d w')] = some (i64 (if l = l' then 1 else 0)) := by
  obtain ⟨N, rfl⟩ : ∃ M, N = M + 1 := ⟨N - 1, by omega⟩
  have hF : fnsA 20 = some fn20' := rfl
  suffices h : ∃ (H : Heap), callN X (N + 1) (.d (.fn 20 [] [])) [.c (.d w), .c (.d w')] [] = some (i64 (if l = l' then 1 else 0), H) by
    obtain ⟨H, h⟩ := h
    exact vcall_of h rfl
  rw [hX.fn hF]
  have hlw := hw.len
  have hlw' := hw'.len
  have hd : ∀ o : Oid, List.map C.d (oD o) = oC o := fun _ => rfl
  by_cases c0 : l.length = l'.length
  case neg =>
    have g1 : ((l.length : Int) != (l'.length : Int)) = true := by rw [bne_iff_ne]; omega
    have g2 : ¬ l = l' := fun h => c0 (by rw [h])
    refine ⟨[], (rf_fin _ _ _ _ _ _ _ _ _ (by rfl)).trans ?_⟩
    simp only [hlw, hlw', g1, g2, ↓sp_len, evs, Nat.reduceAdd, Nat.reduceSub]
  have g1 : ((l.length : Int) != (l'.length : Int)) = false := by rw [bne_eq_false_iff_eq]; omega
  have hsc := iter_find (js := some [0, 1, 3]) (hl := 0) (body := exec (zenv X N) N false fn20L0) (fun j => l.getD j o0 ≠ l'.getD j o0) l.length (fun i => ⟨[.c (.d w), .c (.d w'), .any, i64 (i : Int), .any, .any, .any], []⟩) (b := 0) (s1 := ⟨[.c (.d w), .c (.d w'), .any, i64 (l.length : Int), .any, bl false, .any], []⟩) (Q := fun k s => nth s.regs 2 = i64 0) (fuel := N) (by omega)
    (by
      intro j hj hp
      have hp := Decidable.not_not.1 hp
      have ho := hl.at hj
      have ho' := hl'.at (i := j) (by omega)
      have h1 := hw.at hl hj
      have h1' := hw'.at hl' (i := j) (by omega)
      have h2 := flatO_at hl hj
      have h2' := flatO_at hl' (i := j) (by omega)
      have h4 : (j : Int) < (l.length : Int) := by omega
      have h5 := wrap_succ (k := j) (by omega)
      have h7 := oC_len ho
      have h7' := oC_len ho'
      have h8 := eqO ho ho'
      rw [decide_eq_true hp] at h8
      refine ⟨⟨[.c (.d w), .c (.d w'), .any, i64 ((j + 1 : Nat) : Int), .any, bl true, bl false], []⟩, ?_, gc_le (Nat.le_refl 0)⟩
      simp only [fn20L0, hlw, h1, h2, h4, h5, h7, h8, h1', h2', h7', hd, Bool.true_xor, Bool.not_true, ↓sp_len, ↓sp_ixa, evs])
    (by simp only [fn20L0, hlw, ↓sp_len, evs])
    (by
      intro j hj hp
      have ho := hl.at hj
      have ho' := hl'.at (i := j) (by omega)
      have h1 := hw.at hl hj
      have h1' := hw'.at hl' (i := j) (by omega)
      have h2 := flatO_at hl hj
      have h2' := flatO_at hl' (i := j) (by omega)
      have h4 : (j : Int) < (l.length : Int) := by omega
      have h7 := oC_len ho
      have h7' := oC_len ho'
      have h8 := eqO ho ho'
      rw [decide_eq_false hp] at h8
      refine ⟨⟨[.c (.d w), .c (.d w'), i64 0, i64 (j : Int), .any, bl true, bl true], []⟩, ?_, rfl⟩
      simp only [fn20L0, hlw, h1, h2, h4, h7, h8, h1', h2', h7', hd, Bool.true_xor, Bool.not_false, ↓sp_len, ↓sp_ixa, evs])
  simp only [i64, bl, Int.natCast_zero] at hsc
  rcases hsc with ⟨hno, hit⟩ | ⟨k, s', hk, hp, hno, hq, hit⟩
  · have he : l = l' := by
      refine List.ext_getElem c0 fun i h1 h2 => ?_
      have := Decidable.not_not.1 (hno i h1)
      rw [List.getD_eq_getElem?_getD, List.getD_eq_getElem?_getD, List.getElem?_eq_getElem h1, List.getElem?_eq_getElem h2] at this
      exact this
    subst he
    refine ⟨[], (rf_fin _ _ _ _ _ _ _ _ _ (by rfl)).trans ?_⟩
    simp only [hlw, hlw', hit, ↓sp_len, evs, Nat.reduceAdd, Nat.reduceBEq, Nat.reduceSub]
  · have he : ¬ l = l' := fun h => hp (by rw [h])
    refine ⟨s'.heap, (rf_fin _ _ _ _ _ _ _ _ _ (by rfl)).trans ?_⟩
    obtain ⟨r, H⟩ := s'
    simp only at hq
    simp only [hlw, hlw', g1, he, hit, hq, ↓sp_len, evs, Nat.reduceAdd, Nat.reduceBEq, Nat.reduceSub]
end Mini
end Go.Proofs.YtgjlofpfbhioaaaGreatDoor
namespace Go.Proofs.YtgjlofpfbhioaaaGreatDoor
namespace Mini
open Go
variable {m : Int} {X : Ctx}
theorem freeze_nil (H : Heap) : freeze H [] = H := rfl
end Mini
end Go.Proofs.YtgjlofpfbhioaaaGreatDoor
namespace Go.Proofs.YtgjlofpfbhioaaaGreatDoor
namespace Mini
open Go
variable {m : Int} {X : Ctx}
def letB (c : Nat) : Bool := decide ((c : Int) ≥ 97) && decide ((c : Int) ≤ 122)
def digB (c : Nat) : Bool := decide ((c : Int) ≥ 48) && decide ((c : Int) ≤ 57)
def okB (c : Nat) : Bool := letB c || digB c || decide ((c : Int) = 45)
def nameB (s : List Nat) : Bool := decide (0 < s.length) && decide (s.length ≤ 32) && letB (s.getD 0 0) && s.all okB
def badN (s : List Nat) (j : Nat) : Bool := !letB (s.getD j 0) && (decide (j = 0) || (!digB (s.getD j 0) && !decide ((s.getD j 0 : Int) = 45)))
abbrev R70 (s : List Nat) (i : Nat) : List V := [.c (.d (.str s)), .any, .any, .any, .any, i64 (s.length : Int), i64 (i : Int), .any, .any]
theorem r70 {E : Env} {N : Nat} {s : List Nat} {j : Nat} (hj : j < s.length) (hs : s.length < 1000000) : exec E N false fn70L0 ⟨R70 s j, []⟩ = some (if badN s j then .ret else .nrm, ⟨[.c (.d (.str s)), if badN s j then bl false else .any, i64 (j : Int), bl (letB (s.getD j 0)), bl (digB (s.getD j 0)), i64 (s.length : Int), i64 ((if badN s j then j else j + 1 : Nat) : Int), bl true, bl (badN s j)], []⟩) := by
  have h1 : (j : Int) < (s.length : Int) := by omega
  have h2 := wrap_succ (k := j) (by omega)
  have h3 : s[j]? = some (s.getD j 0) := by rw [List.getD_eq_getElem?_getD, List.getElem?_eq_getElem hj]; rfl
  unfold badN letB digB
  generalize s.getD j 0 = c at *
  have z1 : ((j : Int) == 0) = decide (j = 0) := by rw [Bool.eq_iff_iff, beq_iff_eq, decide_eq_true_eq]; omega
  have z2 : ((c : Int) != 45) = !decide ((c : Int) = 45) := rfl
  generalize decide (j = 0) = zb at *
  generalize decide ((c : Int) = 45) = eb at *
  by_cases a1 : (c : Int) ≥ 97 <;> by_cases a2 : (c : Int) ≤ 122 <;> by_cases b1 : (c : Int) ≥ 48 <;> by_cases b2 : (c : Int) ≤ 57 <;> cases eb <;> cases zb <;> first
    | (exfalso; omega)
    | (simp only [fn70L0, R70, h1, h2, h3, z1, z2, a1, a2, b1, b2, Bool.and_true, Bool.and_false, Bool.not_true, Bool.not_false, evs])
theorem name_bad {s : List Nat} : (∀ j, j < s.length → badN s j = false) ↔ (s.all okB = true ∧ (s ≠ [] → letB (s.getD 0 0) = true)) := by
  constructor
  · intro h
    refine ⟨?_, fun hne => ?_⟩
    · rw [List.all_eq_true]
      intro c hc
      obtain ⟨i, hi, rfl⟩ := List.getElem_of_mem hc
      have := h i hi
      unfold badN at this
      rw [List.getD_eq_getElem?_getD, List.getElem?_eq_getElem hi, Option.getD_some] at this
      unfold okB
      generalize s[i] = c at *
      cases hl : letB c <;> cases hd : digB c <;> cases he : decide ((c : Int) = 45) <;> simp_all
    · have := h 0 (List.length_pos_iff.2 hne)
      unfold badN at this
      simpa using this
  · intro ⟨h1, h2⟩ j hj
    rw [List.all_eq_true] at h1
    have h3 := h1 _ (List.getElem_mem hj)
    unfold badN
    unfold okB at h3
    rw [List.getD_eq_getElem?_getD, List.getElem?_eq_getElem hj, Option.getD_some]
    by_cases hz : j = 0
    · subst hz
      have h4 := h2 (by intro h; rw [h] at hj; cases hj)
      rw [List.getD_eq_getElem?_getD, List.getElem?_eq_getElem hj, Option.getD_some] at h4
      rw [h4]; rfl
    · generalize s[j] = c at *
      cases hl : letB c <;> cases hd : digB c <;> cases he : decide ((c : Int) = 45) <;> simp_all
theorem f70 (hX : XOk m X) {N : Nat} {s : List Nat} (hN : s.length + 5 ≤ N) (hs : s.length < 1000000) : vcallN X N 70 [.c (.d (.str s))] = some (bl (nameB s)) := by
  obtain ⟨N, rfl⟩ : ∃ M, N = M + 1 := ⟨N - 1, by omega⟩
  have hF : fnsA 70 = some fn70' := rfl
  suffices h : ∃ (H : Heap), callN X (N + 1) (.d (.fn 70 [] [])) [.c (.d (.str s))] [] = some (bl (nameB s), H) by
    obtain ⟨H, h⟩ := h
    exact vcall_of h rfl
  rw [hX.fn hF]
  have hsc := iter_find (js := some [0, 5, 6]) (hl := 0) (body := exec (zenv X N) N false fn70L0) (fun j => badN s j = true) s.length (fun i => ⟨R70 s i, []⟩) (b := 0) (s1 := ⟨[.c (.d (.str s)), .any, .any, .any, .any, i64 (s.length : Int), i64 (s.length : Int), bl false, .any], []⟩) (Q := fun k s => nth s.regs 1 = bl false) (fuel := N) (by omega)
    (by
      intro j hj hp
      have hp : badN s j = false := Bool.eq_false_iff.2 hp
      have := r70 (E := zenv X N) (N := N) hj hs
      rw [hp] at this
      exact ⟨_, this, gc_le (Nat.le_refl 0)⟩)
    (by simp only [fn70L0, R70, evs])
    (by
      intro j hj hp
      have := r70 (E := zenv X N) (N := N) hj hs
      rw [hp] at this
      exact ⟨_, this, rfl⟩)
  simp only [R70, i64, bl, Int.natCast_zero] at hsc
  rcases hsc with ⟨hno, hit⟩ | ⟨k, s', hk, hp, hno, hq, hit⟩
  · obtain ⟨g1, g2⟩ := name_bad.1 fun j hj => Bool.eq_false_iff.2 (hno j hj)
    by_cases c1 : (s.length : Int) > 0
    · have g3 := g2 (by intro h; rw [h] at c1; simp at c1)
      have g4 : 0 < s.length := by omega
      by_cases c2 : (s.length : Int) ≤ 32
      · have : nameB s = true := by unfold nameB; rw [g1, g3, decide_eq_true g4, decide_eq_true (by omega)]; rfl
        rw [this]
        refine ⟨[], (rf_fin _ _ _ _ _ _ _ _ _ (by rfl)).trans ?_⟩
        simp only [hit, c1, c2, evs, Nat.reduceAdd, Nat.reduceBEq, Nat.reduceSub]
      · have : nameB s = false := by unfold nameB; rw [decide_eq_false (p := s.length ≤ 32) (by omega)]; simp
        rw [this]
        refine ⟨[], (rf_fin _ _ _ _ _ _ _ _ _ (by rfl)).trans ?_⟩
        simp only [hit, c1, c2, evs, Nat.reduceAdd, Nat.reduceBEq, Nat.reduceSub]
    · have : nameB s = false := by unfold nameB; rw [decide_eq_false (p := 0 < s.length) (by omega)]; rfl
      rw [this]
      refine ⟨[], (rf_fin _ _ _ _ _ _ _ _ _ (by rfl)).trans ?_⟩
      simp only [hit, c1, evs, Nat.reduceAdd, Nat.reduceBEq, Nat.reduceSub]
  · have : nameB s = false := by
      rw [Bool.eq_false_iff]
      intro h
      unfold nameB at h
      simp only [Bool.and_eq_true] at h
      have := name_bad.2 ⟨h.2, fun _ => h.1.2⟩ k hk
      rw [this] at hp; cases hp
    rw [this]
    refine ⟨s'.heap, (rf_fin _ _ _ _ _ _ _ _ _ (by rfl)).trans ?_⟩
    obtain ⟨r, H⟩ := s'
    simp only at hq
    simp only [hit, hq, evs, Nat.reduceAdd, Nat.reduceBEq, Nat.reduceSub]
theorem r56 {E : Env} {N : Nat} {s : List Nat} {j : Nat} (hj : j < s.length) (hs : s.length < 1000000) : exec E N false fn56L0 ⟨[.c (.d (.str s)), .any, i64 (j : Int), .any, .any, .any, .any, .any], []⟩ = some (if okB (s.getD j 0) then .nrm else .ret, ⟨[.c (.d (.str s)), if okB (s.getD j 0) then .any else bl false, i64 ((if okB (s.getD j 0) then j + 1 else j : Nat) : Int), bl (letB (s.getD j 0)), bl (digB (s.getD j 0)), .any, bl true, bl (!okB (s.getD j 0))], []⟩) := by
  have h1 : (j : Int) < (s.length : Int) := by omega
  have h2 := wrap_succ (k := j) (by omega)
  have h3 : s[j]? = some (s.getD j 0) := by rw [List.getD_eq_getElem?_getD, List.getElem?_eq_getElem hj]; rfl
  unfold okB letB digB
  generalize s.getD j 0 = c at *
  have z2 : ((c : Int) != 45) = !decide ((c : Int) = 45) := rfl
  generalize decide ((c : Int) = 45) = eb at *
  by_cases a1 : (c : Int) ≥ 97 <;> by_cases a2 : (c : Int) ≤ 122 <;> by_cases b1 : (c : Int) ≥ 48 <;> by_cases b2 : (c : Int) ≤ 57 <;> cases eb <;> first
    | (exfalso; omega)
    | (simp only [fn56L0, h1, h2, h3, z2, a1, a2, b1, b2, Bool.and_true, Bool.and_false, Bool.not_true, Bool.not_false, evs])
theorem f56 (hX : XOk m X) {N : Nat} {s : List Nat} (hN : s.length + 5 ≤ N) (hs : s.length < 1000000) : vcallN X N 56 [.c (.d (.str s))] = some (bl (nameB s)) := by
  obtain ⟨N, rfl⟩ : ∃ M, N = M + 1 := ⟨N - 1, by omega⟩
  have hF : fnsA 56 = some fn56' := rfl
  suffices h : ∃ (H : Heap), callN X (N + 1) (.d (.fn 56 [] [])) [.c (.d (.str s))] [] = some (bl (nameB s), H) by
    obtain ⟨H, h⟩ := h
    exact vcall_of h rfl
  rw [hX.fn hF]
  by_cases c1 : (s.length : Int) < 1
  · have : nameB s = false := by unfold nameB; rw [decide_eq_false (p := 0 < s.length) (by omega)]; rfl
    rw [this]
    refine ⟨[], (rf_fin _ _ _ _ _ _ _ _ _ (by rfl)).trans ?_⟩
    simp only [c1, evs, Nat.reduceSub]
  by_cases c2 : (s.length : Int) > 32
  · have : nameB s = false := by unfold nameB; rw [decide_eq_false (p := s.length ≤ 32) (by omega)]; simp
    rw [this]
    refine ⟨[], (rf_fin _ _ _ _ _ _ _ _ _ (by rfl)).trans ?_⟩
    simp only [c1, c2, evs, Nat.reduceSub]
  have h3 : s[0]? = some (s.getD 0 0) := by rw [List.getD_eq_getElem?_getD, List.getElem?_eq_getElem (by omega)]; rfl
  by_cases c3 : (s.getD 0 0 : Int) < 97
  · have : nameB s = false := by unfold nameB letB; rw [decide_eq_false (p := (s.getD 0 0 : Int) ≥ 97) (by omega)]; simp
    rw [this]
    refine ⟨[], (rf_fin _ _ _ _ _ _ _ _ _ (by rfl)).trans ?_⟩
    simp only [c1, c2, c3, h3, evs, Nat.reduceSub]
  by_cases c4 : (s.getD 0 0 : Int) > 122
  · have : nameB s = false := by unfold nameB letB; rw [decide_eq_false (p := (s.getD 0 0 : Int) ≤ 122) (by omega)]; simp
    rw [this]
    refine ⟨[], (rf_fin _ _ _ _ _ _ _ _ _ (by rfl)).trans ?_⟩
    simp only [c1, c2, c3, c4, h3, evs, Nat.reduceSub]
  have hname : nameB s = s.all okB := by
    unfold nameB letB
    rw [decide_eq_true (p := 0 < s.length) (by omega), decide_eq_true (p := s.length ≤ 32) (by omega), decide_eq_true (p := (s.getD 0 0 : Int) ≥ 97) (by omega), decide_eq_true (p := (s.getD 0 0 : Int) ≤ 122) (by omega)]
    simp
  have hsc := iter_find (js := some [0, 2]) (hl := 0) (body := exec (zenv X N) N false fn56L0) (fun j => okB (s.getD j 0) = false) s.length (fun i => ⟨[.c (.d (.str s)), .any, i64 (i : Int), .any, .any, .any, .any, .any], []⟩) (b := 0) (s1 := ⟨[.c (.d (.str s)), .any, i64 (s.length : Int), .any, .any, .any, bl false, .any], []⟩) (Q := fun k s => nth s.regs 1 = bl false) (fuel := N) (by omega)
    (by
      intro j hj hp
      have hp := Bool.not_eq_false _ ▸ hp
      have := r56 (E := zenv X N) (N := N) hj hs
      rw [hp] at this
      exact ⟨_, this, gc_le (Nat.le_refl 0)⟩)
    (by simp only [fn56L0, evs])
    (by
      intro j hj hp
      have := r56 (E := zenv X N) (N := N) hj hs
      rw [hp] at this
      exact ⟨_, this, rfl⟩)
  simp only [i64, bl, Int.natCast_zero] at hsc
  rw [hname]
  rcases hsc with ⟨hno, hit⟩ | ⟨k, s', hk, hp, hno, hq, hit⟩
  · have : s.all okB = true := by
      rw [List.all_eq_true]
      intro c hc
      obtain ⟨i, hi, rfl⟩ := List.getElem_of_mem hc
      have := hno i hi
      rw [List.getD_eq_getElem?_getD, List.getElem?_eq_getElem hi, Option.getD_some] at this
      exact Bool.not_eq_false _ ▸ this
    rw [this]
    refine ⟨[], (rf_fin _ _ _ _ _ _ _ _ _ (by rfl)).trans ?_⟩
    simp only [hit, c1, c2, c3, c4, h3, evs, Nat.reduceAdd, Nat.reduceBEq, Nat.reduceSub]
  · have : s.all okB = false := by
      rw [List.all_eq_false]
      refine ⟨_, List.getElem_mem hk, ?_⟩
      rw [List.getD_eq_getElem?_getD, List.getElem?_eq_getElem hk, Option.getD_some] at hp
      rw [hp]; simp
    rw [this]
    refine ⟨s'.heap, (rf_fin _ _ _ _ _ _ _ _ _ (by rfl)).trans ?_⟩
    obtain ⟨r, H⟩ := s'
    simp only at hq
    simp only [hit, hq, c1, c2, c3, c4, h3, evs, Nat.reduceAdd, Nat.reduceBEq, Nat.reduceSub]
end Mini
end Go.Proofs.YtgjlofpfbhioaaaGreatDoor
namespace Go.Proofs.YtgjlofpfbhioaaaGreatDoor
namespace Mini
open Go
variable {m : Int} {X : Ctx}
def anC (s : List Nat) (w : D) (b1 b2 b3 : Bool) : List C := [.d (.str s), .d w, .d (.bool b1), .d (.bool b2), .d (.bool b3)]
def chkA (s : List Nat) (u : List Oid) : Nat := if nameB s = false then 18 else if chkS u ≠ 0 then chkS u else if u.length = 0 then 17 else 0
end Mini
end Go.Proofs.YtgjlofpfbhioaaaGreatDoor
namespace Go.Proofs.YtgjlofpfbhioaaaGreatDoor
namespace Mini
open Go
variable {m : Int} {X : Ctx}
def strV (s : List Nat) : V := .c (.d (.str s))
theorem XOk.hp (h : XOk m X) {k : FuncId} (hk : fnsA k = none) {n : Nat} {args : List V} {H : Heap} {r : V × Heap} (hr : hprim0 k args H = some r) : callN X (n + 1) (.d (.fn k [] [])) args H = some r := by
  have : callN X (n + 1) (.d (.fn k [] [])) args H = match X.fns k with
      | some F => runFn (zenv X n) n F (([] : List D).map (fun x => .c (.d x)) ++ args ++ ([] : List D).map (fun x => .c (.d x))) H
      | none => X.hprim k (([] : List D).map (fun x => .c (.d x)) ++ args ++ ([] : List D).map (fun x => .c (.d x))) H := rfl
  obtain ⟨h1, h2, _⟩ := CtxLe.hprim (X := XA m) h hk hr
  rw [this, h1]
  simpa using h2
theorem decF_len : ∀ f n, (decF f n).length ≤ f + 1 ∧ 0 < (decF f n).length
  | 0, n => ⟨Nat.le_refl _, Nat.zero_lt_one⟩
  | f + 1, n => by
    unfold decF
    split
    · simp
    · rw [List.length_append]
      have := decF_len f (n / 10)
      simp only [List.length_cons, List.length_nil]
      omega
def digsS : List Nat := [48, 49, 50, 51, 52, 53, 54, 55, 56, 57, 97, 98, 99, 100, 101, 102, 103, 104, 105, 106, 107, 108, 109, 110, 111, 112, 113, 114, 115, 116, 117, 118, 119, 120, 121, 122]
def pairS : List Nat := (List.range 100).flatMap fun n => [48 + n / 10, 48 + n % 10]
theorem small1 : ∀ n, n < 10 → (digsS.take (n + 1)).drop n = decN n := by decide
theorem small2 : ∀ n, n < 100 → 10 ≤ n → (pairS.take (n * 2 + 2)).drop (n * 2) = decN n := by decide
set_option maxRecDepth 20000 in
theorem f136 (hX : XOk m X) {N : Nat} (hN : 1 ≤ N) {n : Nat} (hn : n < 100) : vcallN X N 136 [i64 n] = some (strV (decN n)) := by
  obtain ⟨N, rfl⟩ : ∃ M, N = M + 1 := ⟨N - 1, by omega⟩
  refine vcall_of (r := strV (decN n)) (H := []) ?_ rfl
  rw [hX.fn (F := fn136) rfl]
  refine (rf_fin _ _ _ _ _ _ _ _ _ (by rfl)).trans ?_
  by_cases c : (n : Int) < 10
  · have h1 := wrap_succ (k := n) (by omega)
    have h2 := small1 n (by omega)
    have h3 : n + 1 ≤ 36 := by omega
    have h4 : n ≤ n + 1 := by omega
    simp only [digsS] at h2
    simp only [strV, c, h1, h2, h3, h4, optNat, evs, Nat.reduceAdd, Nat.reduceSub]
  · have h1 : IntKind.i64.wrap ((n : Int) * 2) = ((n * 2 : Nat) : Int) := by
      rw [← wrap_nat (k := n * 2) (by omega)]; rfl
    have h5 : IntKind.i64.wrap (((n * 2 : Nat) : Int) + 2) = ((n * 2 + 2 : Nat) : Int) := by
      rw [← wrap_nat (k := n * 2 + 2) (by omega)]; rfl
    have h2 := small2 n (by omega) (by omega)
    have h3 : n * 2 + 2 ≤ 200 := by omega
    have h4 : n * 2 ≤ n * 2 + 2 := by omega
    have h6 : pairS = [48, 48, 48, 49, 48, 50, 48, 51, 48, 52, 48, 53, 48, 54, 48, 55, 48, 56, 48, 57, 49, 48, 49, 49, 49, 50, 49, 51, 49, 52, 49, 53, 49, 54, 49, 55, 49, 56, 49, 57, 50, 48, 50, 49, 50, 50, 50, 51, 50, 52, 50, 53, 50, 54, 50, 55, 50, 56, 50, 57, 51, 48, 51, 49, 51, 50, 51, 51, 51, 52, 51, 53, 51, 54, 51, 55, 51, 56, 51, 57, 52, 48, 52, 49, 52, 50, 52, 51, 52, 52, 52, 53, 52, 54, 52, 55, 52, 56, 52, 57, 53, 48, 53, 49, 53, 50, 53, 51, 53, 52, 53, 53, 53, 54, 53, 55, 53, 56, 53, 57, 54, 48, 54, 49, 54, 50, 54, 51, 54, 52, 54, 53, 54, 54, 54, 55, 54, 56, 54, 57, 55, 48, 55, 49, 55, 50, 55, 51, 55, 52, 55, 53, 55, 54, 55, 55, 55, 56, 55, 57, 56, 48, 56, 49, 56, 50, 56, 51, 56, 52, 56, 53, 56, 54, 56, 55, 56, 56, 56, 57, 57, 48, 57, 49, 57, 50, 57, 51, 57, 52, 57, 53, 57, 54, 57, 55, 57, 56, 57, 57] := by kernel_rfl
    rw [h6] at h2
    simp only [strV, c, h1, h2, h3, h4, h5, optNat, evs, Nat.reduceAdd, Nat.reduceSub]
def z24 : List C := List.replicate 24 (.d (.int .u8 0))
theorem byteX_z : ∀ k, mapO byteX (List.replicate k (.d (.int .u8 0))) = some (List.replicate k 0)
  | 0 => rfl
  | k + 1 => by rw [List.replicate_succ, mapO, byteX_z k]; rfl
theorem decF_byte : ∀ f n, ∀ b ∈ decF f n, b < 256
  | 0, n, b, h => by
    simp only [decF, List.mem_singleton] at h
    omega
  | f + 1, n, b, h => by
    unfold decF at h
    split at h
    · simp only [List.mem_singleton] at h; omega
    · rw [List.mem_append, List.mem_singleton] at h
      rcases h with h | h
      · exact decF_byte f _ b h
      · omega
theorem bytesOf_of : ∀ {s : List Nat}, (∀ b ∈ s, b < 256) → bytesOf (ofBytes s) = some s
  | [], _ => rfl
  | b :: s, h => by
    have ih := bytesOf_of (s := s) (fun x hx => h x (List.mem_cons_of_mem _ hx))
    have h1 := h b List.mem_cons_self
    unfold bytesOf ofBytes at ih ⊢
    rw [List.map_cons, mapO, ih]
    simp only [byteOf, Int.ofNat_eq_natCast, Int.toNat_natCast, Nat.mod_eq_of_lt h1]
theorem f111 (hX : XOk m X) {N : Nat} (hN : 2 ≤ N) {n : Nat} (hn : n < 18446744073709551616) : vcallN X N 111 [.c (.d (.int .u64 n)), i64 10] = some (strV (decN n)) := by
  obtain ⟨N, rfl⟩ : ∃ M, N = M + 1 := ⟨N - 1, by omega⟩
  suffices h : ∃ (H : Heap), callN X (N + 1) (.d (.fn 111 [] [])) [.c (.d (.int .u64 n)), i64 10] [] = some (strV (decN n), H) by
    obtain ⟨H, h⟩ := h
    exact vcall_of h rfl
  rw [hX.fn (F := fn111) rfl]
  have g1 : ((10 : Int) == 10) = true := rfl
  by_cases c : (n : Int) < 100
  · have h1 := hX.vc (k := 136) (F := fn136) rfl (f136 hX (N := N) (by omega) (n := n) (by omega))
    have h2 : IntKind.i64.wrap (n : Int) = (n : Int) := wrap_nat (by omega)
    simp only [i64] at h1
    refine ⟨[], (rf_fin _ _ _ _ _ _ _ _ _ (by rfl)).trans ?_⟩
    simp only [strV] at h1 ⊢
    simp only [c, g1, h1, h2, evs, Nat.reduceAdd, Nat.reduceSub]
  · obtain ⟨k1, k2⟩ := decF_len 20 n
    have k3 : (decN n).length ≤ 24 := by unfold decN; omega
    have k4 : 0 < (decN n).length := by unfold decN; exact k2
    have h1 : prim0 137 [.c (.d (.int .u64 n))] = some (.c (.d (.int .i64 ((decN n).length : Int)))) := by
      show (if 1 ≤ (n : Int) ∧ (n : Int) < 18446744073709551616 then some (I64 (Int.ofNat (decN (n : Int).toNat).length)) else none) = _
      rw [if_pos (by omega)]; rfl
    have h1 := hX.prim _ _ _ h1
    have hz : z24.length = 24 := rfl
    have h2 : hprim0 138 [.c (.os 0 0 0 (decN n).length 1 (some 24)), .c (.d (.int .u64 n))] [.cells z24 0 false] = some (.tup [], [.cells (splice z24 0 (ofBytes (decN n))) 0 false]) := by
      show (match ob? [Ob.cells z24 0 false] 0 with
        | some (.cells cs g' false) => if g' = 0 ∧ 0 + (decN n).length ≤ cs.length ∧ 0 ≤ (n : Int) ∧ (n : Int) < 18446744073709551616 ∧ (decN (n : Int).toNat).length = (decN n).length ∧ 0 < (decN n).length ∧ (decN n).length < 1000 ∧ (mapO byteX ((cs.drop 0).take (decN n).length)).isSome then
            some (V.tup [], setOb [Ob.cells z24 0 false] 0 (.cells (splice cs 0 (ofBytes (decN (n : Int).toNat))) 0 false)) else none
        | _ => none) = _
      have hb : (mapO byteX ((z24.drop 0).take (decN n).length)).isSome = true := by
        rw [List.drop_zero, z24, List.take_replicate, byteX_z]; rfl
      simp only [ob?]
      rw [if_pos ⟨trivial, by rw [hz]; omega, by omega, by omega, by rw [Int.toNat_natCast], k4, by omega, hb⟩, Int.toNat_natCast]
      rfl
    obtain ⟨M, rfl⟩ : ∃ M, N = M + 1 := ⟨N - 1, by omega⟩
    have h2 := hX.hp (n := M) (by rfl) h2
    have h5 : splice z24 0 (ofBytes (decN n)) = ofBytes (decN n) ++ z24.drop (decN n).length := by
      unfold splice
      rw [List.take_zero, List.nil_append, Nat.zero_add]
      simp [ofBytes]
    have h6 : ((splice z24 0 (ofBytes (decN n))).drop 0).take (decN n).length = ofBytes (decN n) := by
      rw [h5, List.drop_zero, List.take_left' (by simp [ofBytes])]
    have h7 : (splice z24 0 (ofBytes (decN n))).length = 24 := by
      rw [h5, List.length_append, List.length_drop, hz]; simp [ofBytes]; omega
    have h8 := bytesOf_of (s := decN n) (decF_byte 20 n)
    refine ⟨[.cells (splice z24 0 (ofBytes (decN n))) 0 false], (rf_fin _ _ _ _ _ _ _ _ _ (by rfl)).trans ?_⟩
    have hzz : z24 = [.d (.int .u8 0), .d (.int .u8 0), .d (.int .u8 0), .d (.int .u8 0), .d (.int .u8 0), .d (.int .u8 0), .d (.int .u8 0), .d (.int .u8 0), .d (.int .u8 0), .d (.int .u8 0), .d (.int .u8 0), .d (.int .u8 0), .d (.int .u8 0), .d (.int .u8 0), .d (.int .u8 0), .d (.int .u8 0), .d (.int .u8 0), .d (.int .u8 0), .d (.int .u8 0), .d (.int .u8 0), .d (.int .u8 0), .d (.int .u8 0), .d (.int .u8 0), .d (.int .u8 0)] := rfl
    generalize splice z24 0 (ofBytes (decN n)) = cs at *
    rw [hzz] at h2
    simp only [strV, ob?, c, g1, h1, h2, h6, h7, h8, k3, zenv, elems, optNat, Option.map_none, Nat.zero_le, Nat.le_refl, Nat.sub_zero, List.map_cons, List.map_nil, evs, Nat.reduceAdd, Nat.reduceSub]
theorem f89 (hX : XOk m X) {N : Nat} (hN : 3 ≤ N) {n : Nat} (hn : n < 18446744073709551616) : vcallN X N 89 [.c (.d (.int .u64 n)), i64 10] = some (strV (decN n)) := by
  obtain ⟨N, rfl⟩ : ∃ M, N = M + 1 := ⟨N - 1, by omega⟩
  have h1 := hX.vc (k := 111) (F := fn111) rfl (f111 hX (N := N) (by omega) hn)
  refine vcall_of (r := strV (decN n)) (H := []) ?_ rfl
  rw [hX.fn (F := fn89) rfl]
  refine (rf_fin _ _ _ _ _ _ _ _ _ (by rfl)).trans ?_
  simp only [strV, i64] at h1 ⊢
  simp only [h1, evs, Nat.reduceAdd, Nat.reduceSub]
end Mini
end Go.Proofs.YtgjlofpfbhioaaaGreatDoor
namespace Go.Proofs.YtgjlofpfbhioaaaGreatDoor
namespace Mini
open Go
variable {m : Int} {X : Ctx}
theorem zenv_pr {X : Ctx} {n : Nat} : (zenv X n).prim = X.prim := rfl
theorem wrap_u64 {n : Nat} (h : n < 18446744073709551616) : IntKind.u64.wrap (n : Int) = (n : Int) := by
  simp only [IntKind.wrap, IntKind.bits, IntKind.signed]
  simp
  omega
def wordsC (l : List (List Nat)) (i : Nat) : List C := (l.take i ++ List.replicate (l.length - i) []).map fun s => .d (.str s)
theorem wordsC_len (l : List (List Nat)) {i : Nat} (h : i ≤ l.length) : (wordsC l i).length = l.length := by simp [wordsC]; omega
theorem wordsC_set (l : List (List Nat)) {i : Nat} (h : i < l.length) : splice (wordsC l i) i [.d (.str (l.getD i []))] = wordsC l (i + 1) := by
  have h1 : (l.take i).length = i := by rw [List.length_take]; omega
  have h2 : l.length - i = (l.length - (i + 1)) + 1 := by omega
  unfold splice wordsC
  rw [h2, List.replicate_succ, List.map_append, List.take_left' (by rw [List.length_map, h1])]
  rw [show i + [C.d (D.str (l.getD i []))].length = ((l.take i).map fun s => C.d (D.str s)).length + 1 by simp; omega]
  rw [← List.drop_drop, List.drop_left, List.map_cons, List.drop_succ_cons, List.drop_zero]
  rw [List.take_succ_eq_append_getElem h, List.map_append, List.map_append, List.getD_eq_getElem?_getD, List.getElem?_eq_getElem h]
  simp
theorem strsOf_words : ∀ l : List (List Nat), strsOf (l.map D.str) = some l
  | [] => rfl
  | x :: l => by rw [List.map_cons, strsOf, strsOf_words l]; rfl
def textO (o : Oid) : List Nat := joinN [46] ((arcsO o).map decN)
theorem joinN_len (sep : List Nat) (b : Nat) : ∀ l : List (List Nat), (∀ x ∈ l, x.length ≤ b) → (joinN sep l).length ≤ l.length * (b + sep.length)
  | [], _ => by simp [joinN]
  | [x], h => by
    have := h x (by simp)
    simp only [joinN, List.length_cons, List.length_nil]
    omega
  | x :: y :: l, h => by
    have h1 := h x (by simp)
    have h2 := joinN_len sep b (y :: l) (fun z hz => h z (List.mem_cons_of_mem _ hz))
    simp only [joinN, List.length_append, List.length_cons] at h2 ⊢
    have : (l.length + 1 + 1) * (b + sep.length) = (l.length + 1) * (b + sep.length) + (b + sep.length) := Nat.succ_mul _ _
    omega
theorem f61 (hX : XOk m X) {N : Nat} (hN : 40 ≤ N) {o : Oid} (ho : wfO o) (hc : chkO o = 0) : vcallN X N 61 [.agg (oC o)] = some (strV (textO o)) := by
  obtain ⟨N, rfl⟩ : ∃ M, N = M + 1 := ⟨N - 1, by omega⟩
  have hF : fnsA 61 = some fn61' := rfl
  suffices h : ∃ (H : Heap), callN X (N + 1) (.d (.fn 61 [] [])) [.agg (oC o)] [] = some (strV (textO o), H) by
    obtain ⟨H, h⟩ := h
    exact vcall_of h rfl
  rw [hX.fn hF]
  have hd : ∀ o : Oid, List.map C.d (oD o) = oC o := fun _ => rfl
  have hm : ∀ (H : Heap) (o : Oid), mapO (deepC H deepMax) (oC o) = some (oD o) := fun H o => mapO_d H _ _
  have h1 := hX.vc (k := 53) (F := fn53) rfl (chkO_ok (hX.fns _ _ rfl) ho (N := N) (by omega))
  rw [hc] at h1
  have h6 := oC_len ho
  have hn : 2 ≤ o.1 ∧ o.1 ≤ 16 := by
    unfold chkO at hc
    split at hc
    · cases hc
    · omega
  have hal := arcsO_len ho
  have hmin : min o.1 16 = o.1 := by omega
  rw [hmin] at hal
  have h0 : (oC o).take 1 = [.d (.int .u8 (o.1 : Int))] := oC_n (o := o)
  have h86 := f86 hX (N := N) (by omega) ho (H := [.cells (oC o) 0 false, .cells (wordsC ((arcsO o).map decN) 0) 0 false]) (id := 0) rfl
  rw [hmin] at h86
  have hw0 : rep [C.d (.str [])] o.1 = wordsC ((arcsO o).map decN) 0 := by
    rw [rep_flat]
    simp [wordsC, hal]
  have h1i : o.1 * 16 ≤ 1099511627776 := by omega
  have h1j : o.1 ≤ 1099511627776 := by omega
  have hit : iter (some [3, 7, 8, 9]) 2 (exec (zenv X N) N false fn61L0) N ⟨[.any, .any, .any, .c (.os 1 0 0 o.1 1 (some o.1)), .any, .any, .any, .c (.os 0 0 1 o.1 1 (some 16)), i64 (o.1 : Int), i64 ((0 : Nat) : Int), .any], [.cells (oC o) 0 false, .cells (wordsC ((arcsO o).map decN) 0) 0 false]⟩ = some (.exit 0, ⟨[.any, .any, .any, .c (.os 1 0 0 o.1 1 (some o.1)), .any, .any, .any, .c (.os 0 0 1 o.1 1 (some 16)), i64 (o.1 : Int), i64 (o.1 : Int), bl false], [.cells (oC o) 0 false, .cells (wordsC ((arcsO o).map decN) o.1) 0 false]⟩) := by
    refine iter_to (fun i => ⟨[.any, .any, .any, .c (.os 1 0 0 o.1 1 (some o.1)), .any, .any, .any, .c (.os 0 0 1 o.1 1 (some 16)), i64 (o.1 : Int), i64 (i : Int), .any], [.cells (oC o) 0 false, .cells (wordsC ((arcsO o).map decN) i) 0 false]⟩) (e := .exit 0) (fun h => by cases h) o.1 0 N (fun j _ hj => ?_) ?_ (by omega)
    · have hjn : j < o.1 := by omega
      have hx : o.2[j]? = some (o.2.getD j 0) := by rw [List.getD_eq_getElem?_getD, List.getElem?_eq_getElem (by rw [ho.2.1]; omega)]; rfl
      have q1 := oC_arc hx
      have hxb : o.2.getD j 0 < 4294967296 := by
        rw [List.getD_eq_getElem?_getD, List.getElem?_eq_getElem (by rw [ho.2.1]; omega)]
        exact ho.2.2 _ (List.getElem_mem _)
      have q2 : ((arcsO o).map decN).getD j [] = decN (o.2.getD j 0) := by
        rw [List.getD_eq_getElem?_getD, List.getElem?_map, arcsO, List.getElem?_take_of_lt hjn, hx]; rfl
      have q3 := wordsC_set ((arcsO o).map decN) (i := j) (by rw [List.length_map, hal]; exact hjn)
      rw [q2] at q3
      have q4 := wordsC_len ((arcsO o).map decN) (i := j) (by rw [List.length_map, hal]; omega)
      rw [List.length_map, hal] at q4
      have q5 := hX.vc (k := 89) (F := fn89) rfl (f89 hX (N := N) (by omega) (n := o.2.getD j 0) (by omega))
      have q6 := wrap_u64 (n := o.2.getD j 0) (by omega)
      have q7 := wrap_succ (k := j) (by omega)
      have q8 : (j : Int) < (o.1 : Int) := by omega
      have q9 : j + 1 ≤ o.1 := by omega
      simp only [u32D] at q1
      simp only [i64, strV] at q5
      generalize o.2.getD j 0 = x at *
      refine ⟨⟨[.any, .any, .any, .c (.os 1 0 0 o.1 1 (some o.1)), i64 (j : Int), .c (.d (.int .u32 x)), .any, .c (.os 0 0 1 o.1 1 (some 16)), i64 (o.1 : Int), i64 ((j + 1 : Nat) : Int), bl true], [.cells (oC o) 0 false, .cells (wordsC ((arcsO o).map decN) (j + 1)) 0 false]⟩, ?_, gc_le (Nat.le_refl 2)⟩
      simp only [fn61L0, ob?, q1, q3, q4, q5, q6, q7, q8, q9, hjn, List.set_cons_succ, List.set_cons_zero, ↓sp_ixa, evs]
    · rw [Nat.zero_add]
      simp only [fn61L0, evs]
  have hwn : wordsC ((arcsO o).map decN) o.1 = (((arcsO o).map decN).map D.str).map .d := by
    unfold wordsC
    rw [List.take_of_length_le (by rw [List.length_map, hal]; exact Nat.le_refl _), List.length_map, hal, Nat.sub_self]
    simp
  have hlw : (wordsC ((arcsO o).map decN) o.1).length = o.1 := by
    rw [wordsC_len _ (by rw [List.length_map, hal]; exact Nat.le_refl _), List.length_map, hal]
  have hdp : deepC [.cells (oC o) 0 false, .cells (wordsC ((arcsO o).map decN) o.1) 0 false] deepMax (.os 1 0 0 o.1 1 (some o.1)) = some (.sl (((arcsO o).map decN).map D.str) o.1) := by
    have p1 : 0 + o.1 * 1 ≤ (wordsC ((arcsO o).map decN) o.1).length := by omega
    have p2 : ((wordsC ((arcsO o).map decN) o.1).drop 0).take (o.1 * 1) = (((arcsO o).map decN).map D.str).map .d := by
      rw [List.drop_zero, List.take_of_length_le (by omega), hwn]
    simp only [deepMax, deepC, ob?, if_true, if_pos p1, p2, mapO_d, Option.map_some]
  have hj : prim0 90 [.c (.d (.sl (((arcsO o).map decN).map D.str) o.1)), .c (.d (.str [46]))] = some (.c (.d (.str (textO o)))) := by
    have e : ∀ vs, prim0 90 vs = joinV vs := fun _ => rfl
    rw [e]
    unfold joinV
    simp only [strsOf_words]
    have hb := joinN_len [46] 21 ((arcsO o).map decN) (fun x hx => by
      obtain ⟨n, _, rfl⟩ := List.mem_map.1 hx
      exact (decF_len 20 n).1)
    rw [List.length_map, hal] at hb
    simp only [List.length_cons, List.length_nil] at hb
    have hb2 : (joinN [46] ((arcsO o).map decN)).length ≤ 1073741824 := by omega
    rw [if_pos ⟨by rw [List.length_map, hal], by omega, by omega, hb2⟩]
    rfl
  have hj := hX.prim _ _ _ hj
  simp only [i64, bl, Int.natCast_zero] at hit h1
  refine ⟨[.cells (oC o) 0 false, .cells (wordsC ((arcsO o).map decN) o.1) 0 false], (rf_fin _ _ _ _ _ _ _ _ _ (by rfl)).trans ?_⟩
  simp only [strV, ob?, h0, h1, h6, h86, hw0, h1i, h1j, hit, hdp, hj, zenv_pr, hm, hd, Nat.le_refl, List.drop_zero, List.take_of_length_le (Nat.le_of_eq h6), List.map_cons, List.map_nil, ↓sp_len, evs, Nat.reduceAdd, Nat.reduceBEq, Nat.reduceSub]
end Mini
end Go.Proofs.YtgjlofpfbhioaaaGreatDoor
namespace Go.Proofs.YtgjlofpfbhioaaaGreatDoor
namespace Mini
open Go
variable {m : Int} {X : Ctx}
theorem wrap_u32 {n : Nat} (h : n < 4294967296) : IntKind.u32.wrap (n : Int) = (n : Int) := by
  simp only [IntKind.wrap, IntKind.bits, IntKind.signed]
  simp
  omega
theorem wrap_u8 {n : Nat} (h : n < 256) : IntKind.u8.wrap (n : Int) = (n : Int) := by
  simp only [IntKind.wrap, IntKind.bits, IntKind.signed]
  simp
  omega
theorem r87 {E : Env} {N : Nat} {n : Nat} {s : List Nat} (hn : n < 4294967296) (hs : s.length < 1000) : exec E N false fn87L0 ⟨[.c (.d (u32D n)), .any, strV s, bl true, .any], []⟩ = some (.nrm, ⟨[.c (.d (u32D (n / 10))), .any, strV ((48 + n % 10) :: s), bl (decide (((n / 10 : Nat) : Int) > 0)), bl true], [.cells [.d (.int .u8 ((48 + n % 10 : Nat) : Int))] 0 false]⟩) := by
  have h1 : (n : Int).tmod 10 = ((n % 10 : Nat) : Int) := (Int.ofNat_tmod n 10).symm
  have h2 : (n : Int).tdiv 10 = ((n / 10 : Nat) : Int) := (Int.ofNat_tdiv n 10).symm
  have h3 : IntKind.u32.wrap (48 + ((n % 10 : Nat) : Int)) = ((48 + n % 10 : Nat) : Int) := by
    rw [← wrap_u32 (n := 48 + n % 10) (by omega)]; rfl
  have h4 : IntKind.u8.wrap ((48 + n % 10 : Nat) : Int) = ((48 + n % 10 : Nat) : Int) := wrap_u8 (by omega)
  have h5 : IntKind.u32.wrap ((n / 10 : Nat) : Int) = ((n / 10 : Nat) : Int) := wrap_u32 (by omega)
  have h6 : bytesOf [C.d (.int .u8 ((48 + n % 10 : Nat) : Int))] = some [48 + n % 10] := bytesOf_of (s := [48 + n % 10]) (fun b hb => by rw [List.mem_singleton] at hb; omega)
  have h7 : 1 + s.length ≤ 1073741824 := by omega
  have h8 : ((10 : Int) = 0) = False := by simp
  generalize 48 + n % 10 = d at *
  generalize n / 10 = q at *
  simp only [fn87L0, strV, u32D, ob?, h1, h2, h3, h4, h5, h6, h7, h8, binStr, elems, lay, rep, splice, List.take, List.drop, List.map_cons, List.map_nil, evs, Nat.reduceLeDiff]
theorem it87 {E : Env} {N : Nat} : ∀ (f n : Nat) (s : List Nat) (fuel : Nat), n < 10 ^ (f + 1) → n < 4294967296 → s.length + f < 1000 → f + 2 ≤ fuel → iter (some [0, 2, 3]) 0 (exec E N false fn87L0) fuel ⟨[.c (.d (u32D n)), .any, strV s, bl true, .any], []⟩ = some (.exit 0, ⟨[.c (.d (u32D 0)), .any, strV (decF f n ++ s), bl false, bl false], []⟩) := by
  have hend : ∀ (s : List Nat), exec E N false fn87L0 ⟨[.c (.d (u32D 0)), .any, strV s, bl false, .any], []⟩ = some (.exit 0, ⟨[.c (.d (u32D 0)), .any, strV s, bl false, bl false], []⟩) := fun s => by
    simp only [fn87L0, evs]
  intro f
  induction f with
  | zero =>
    intro n s fuel hn hn2 hs hf
    obtain ⟨fuel, rfl⟩ : ∃ k, fuel = k + 2 := ⟨fuel - 2, by omega⟩
    have hq : n / 10 = 0 := by omega
    have hr := r87 (E := E) (N := N) hn2 (s := s) (by omega)
    rw [hq] at hr
    rw [iter_step hr]
    have ht : tidy 0 (some [0, 2, 3]) ⟨[.c (.d (u32D 0)), .any, strV ((48 + n % 10) :: s), bl (decide (((0 : Nat) : Int) > 0)), bl true], [.cells [.d (.int .u8 ((48 + n % 10 : Nat) : Int))] 0 false]⟩ = ⟨[.c (.d (u32D 0)), .any, strV ((48 + n % 10) :: s), bl false, .any], []⟩ := gc_yes rfl rfl
    rw [ht, iter_stop (hend _)]
    rfl
  | succ f ih =>
    intro n s fuel hn hn2 hs hf
    obtain ⟨fuel, rfl⟩ : ∃ k, fuel = k + 1 := ⟨fuel - 1, by omega⟩
    have hr := r87 (E := E) (N := N) hn2 (s := s) (by omega)
    rw [iter_step hr]
    by_cases hq : n < 10
    · have hq0 : n / 10 = 0 := by omega
      obtain ⟨fuel, rfl⟩ : ∃ k, fuel = k + 1 := ⟨fuel - 1, by omega⟩
      rw [hq0]
      have ht : tidy 0 (some [0, 2, 3]) ⟨[.c (.d (u32D 0)), .any, strV ((48 + n % 10) :: s), bl (decide (((0 : Nat) : Int) > 0)), bl true], [.cells [.d (.int .u8 ((48 + n % 10 : Nat) : Int))] 0 false]⟩ = ⟨[.c (.d (u32D 0)), .any, strV ((48 + n % 10) :: s), bl false, .any], []⟩ := gc_yes rfl rfl
      rw [ht, iter_stop (hend _), decF, if_pos hq, Nat.mod_eq_of_lt hq]
      rfl
    · have hd : decide (((n / 10 : Nat) : Int) > 0) = true := decide_eq_true (by omega)
      rw [hd]
      have ht : tidy 0 (some [0, 2, 3]) ⟨[.c (.d (u32D (n / 10))), .any, strV ((48 + n % 10) :: s), bl true, bl true], [.cells [.d (.int .u8 ((48 + n % 10 : Nat) : Int))] 0 false]⟩ = ⟨[.c (.d (u32D (n / 10))), .any, strV ((48 + n % 10) :: s), bl true, .any], []⟩ := gc_yes rfl rfl
      rw [ht, ih (n / 10) _ fuel (by rw [Nat.pow_succ] at hn; omega) (by omega) (by simp only [List.length_cons]; omega) (by omega), decF, if_neg hq, List.append_assoc]
      rfl
theorem f87 (hX : XOk m X) {N : Nat} (hN : 40 ≤ N) {n : Nat} (hn : n < 4294967296) : vcallN X N 87 [.c (.d (u32D n))] = some (strV (decN n)) := by
  obtain ⟨N, rfl⟩ : ∃ M, N = M + 1 := ⟨N - 1, by omega⟩
  have hF : fnsA 87 = some fn87' := rfl
  have hit := it87 (E := zenv X N) (N := N) 20 n [] N (Nat.lt_of_lt_of_le hn (by decide)) hn (by simp) (by omega)
  refine vcall_of (r := strV (decN n)) (H := []) ?_ rfl
  rw [hX.fn hF]
  refine (rf_fin _ _ _ _ _ _ _ _ _ (by rfl)).trans ?_
  simp only [strV, bl, List.append_nil] at hit ⊢
  simp only [decN, hit, evs, Nat.reduceAdd, Nat.reduceBEq, Nat.reduceSub]
end Mini
end Go.Proofs.YtgjlofpfbhioaaaGreatDoor
namespace Go.Proofs.YtgjlofpfbhioaaaGreatDoor
namespace Mini
open Go
variable {m : Int} {X : Ctx}
theorem joinN_snoc (sep x : List Nat) : ∀ l : List (List Nat), joinN sep (l ++ [x]) = if l = [] then x else joinN sep l ++ (sep ++ x)
  | [] => rfl
  | [y] => by simp [joinN]
  | y :: z :: l => by
    have ih := joinN_snoc sep x (z :: l)
    rw [if_neg (by simp)] at ih ⊢
    rw [List.cons_append, List.cons_append, joinN, ← List.cons_append, ih, joinN]
    simp only [List.append_assoc]
def pre58 (o : Oid) (i : Nat) : List Nat := joinN [46] (((arcsO o).take i).map decN)
theorem pre58_len (o : Oid) (i : Nat) (h : i ≤ 16) : (pre58 o i).length ≤ 352 := by
  have := joinN_len [46] 21 (((arcsO o).take i).map decN) (fun x hx => by
    obtain ⟨n, _, rfl⟩ := List.mem_map.1 hx
    exact (decF_len 20 n).1)
  have h2 : (((arcsO o).take i).map decN).length ≤ i := by rw [List.length_map, List.length_take]; omega
  simp only [List.length_cons, List.length_nil] at this
  unfold pre58
  omega
theorem f58 (hX : XOk m X) {N : Nat} (hN : 60 ≤ N) {o : Oid} (ho : wfO o) (hn : o.1 ≤ 16) : vcallN X N 58 [.agg (oC o)] = some (strV (textO o)) := by
  obtain ⟨N, rfl⟩ : ∃ M, N = M + 1 := ⟨N - 1, by omega⟩
  have hF : fnsA 58 = some fn58' := rfl
  have hal := arcsO_len ho
  rw [Nat.min_eq_left hn] at hal
  have h0 : (oC o).take 1 = [.d (.int .u8 (o.1 : Int))] := oC_n (o := o)
  have hw : IntKind.i64.wrap (o.1 : Int) = (o.1 : Int) := wrap_nat (by omega)
  have hit : iter (some [1, 3, 4]) 1 (exec (zenv X N) N false fn58L0) N ⟨[.any, .c (.ptr 0 0 0), .any, strV (pre58 o 0), i64 ((0 : Nat) : Int), .any, .any], [.cells (oC o) 0 false]⟩ = some (.exit 0, ⟨[.any, .c (.ptr 0 0 0), .any, strV (pre58 o o.1), i64 (o.1 : Int), bl false, .any], [.cells (oC o) 0 false]⟩) := by
    refine iter_to (fun i => ⟨[.any, .c (.ptr 0 0 0), .any, strV (pre58 o i), i64 (i : Int), .any, .any], [.cells (oC o) 0 false]⟩) (e := .exit 0) (fun h => by cases h) o.1 0 N (fun j _ hj => ?_) ?_ (by omega)
    · have hjn : j < o.1 := by omega
      have hx : o.2[j]? = some (o.2.getD j 0) := by rw [List.getD_eq_getElem?_getD, List.getElem?_eq_getElem (by rw [ho.2.1]; omega)]; rfl
      have q1 := oC_arc hx
      have hxb : o.2.getD j 0 < 4294967296 := by
        rw [List.getD_eq_getElem?_getD, List.getElem?_eq_getElem (by rw [ho.2.1]; omega)]
        exact ho.2.2 _ (List.getElem_mem _)
      have q2 := hX.vc (k := 87) (F := fn87) rfl (f87 hX (N := N) (by omega) hxb)
      have q3 : pre58 o (j + 1) = if j = 0 then decN (o.2.getD j 0) else pre58 o j ++ ([46] ++ decN (o.2.getD j 0)) := by
        unfold pre58
        have hxa : (arcsO o)[j]? = some (o.2.getD j 0) := by rw [arcsO, List.getElem?_take_of_lt hjn, hx]
        have hta : (arcsO o).take (j + 1) = (arcsO o).take j ++ [o.2.getD j 0] := by
          rw [List.take_add_one, hxa]; rfl
        rw [hta, List.map_append, List.map_cons, List.map_nil, joinN_snoc]
        by_cases hz : j = 0
        · subst hz; simp
        · have hne : ¬ ((arcsO o).take j).map decN = [] := by
            intro h
            have := congrArg List.length h
            rw [List.length_map, List.length_take, hal, List.length_nil] at this
            omega
          rw [if_neg hne, if_neg hz]
      have q4 := pre58_len o j (by omega)
      have q5 := (decF_len 20 (o.2.getD j 0)).1
      have q7 := wrap_succ (k := j) (by omega)
      have q8 : (j : Int) < (o.1 : Int) := by omega
      have q9 : j < 16 := by omega
      have q10 : pre58 o 0 = [] := rfl
      simp only [u32D, strV] at q1 q2
      refine ⟨⟨[.any, .c (.ptr 0 0 0), .any, strV (pre58 o (j + 1)), i64 ((j + 1 : Nat) : Int), bl true, bl (decide (j ≠ 0))], [.cells (oC o) 0 false]⟩, ?_, gc_le (Nat.le_refl 1)⟩
      rw [q3]
      change (decN (o.2.getD j 0)).length ≤ 20 + 1 at q5
      generalize o.2.getD j 0 = x at *
      by_cases hz : j = 0
      · subst hz
        have g1 : ¬ ((0 : Nat) : Int) > 0 := by simp
        have g2 : 0 + (decN x).length ≤ 1073741824 := by omega
        simp only [Nat.add_zero] at q1
        simp only [fn58L0, strV, ob?, h0, hw, q1, q2, q7, q8, q10, g1, binStr, show (decN x).length ≤ 1073741824 by omega, List.drop_zero, ne_eq, not_true_eq_false, evs, Nat.reduceLT]
      · have g1 : (j : Int) > 0 := by omega
        have g2 : (pre58 o j).length + 1 ≤ 1073741824 := by omega
        have g3 : (pre58 o j).length + 1 + (decN x).length ≤ 1073741824 := by omega
        simp only [fn58L0, strV, ob?, h0, hw, hz, q1, q2, q7, q8, q9, g1, g2, g3, binStr, List.length_append, List.append_assoc, List.drop_zero, ne_eq, not_false_eq_true, evs]
    · rw [Nat.zero_add]
      simp only [fn58L0, ob?, h0, hw, List.drop_zero, evs]
  refine vcall_of (r := strV (textO o)) (H := [.cells (oC o) 0 false]) ?_ rfl
  rw [hX.fn hF]
  refine (rf_fin _ _ _ _ _ _ _ _ _ (by rfl)).trans ?_
  have ht : pre58 o o.1 = textO o := by
    unfold pre58 textO
    rw [List.take_of_length_le (by omega)]
  have q10 : pre58 o 0 = [] := rfl
  rw [ht, q10] at hit
  simp only [strV, bl, i64, Int.natCast_zero] at hit ⊢
  simp only [hit, evs, Nat.reduceAdd, Nat.reduceBEq, Nat.reduceSub]
end Mini
end Go.Proofs.YtgjlofpfbhioaaaGreatDoor
namespace Go.Proofs.YtgjlofpfbhioaaaGreatDoor
namespace Mini
open Go
theorem iter_inv {js : Option (List Nat)} {hl : Nat} {body : St → Option (Ex × St)} (P : Nat → St → Prop) {e : Ex} (he : e ≠ .nrm) (Q : St → Prop) : ∀ (k i fuel : Nat) (s : St), P i s → (∀ j, i ≤ j → j < i + k → ∀ s, P j s → ∃ s', body s = some (.nrm, s') ∧ P (j + 1) (tidy hl js s')) → (∀ s, P (i + k) s → ∃ s', body s = some (e, s') ∧ Q s') → k < fuel → ∃ s', iter js hl body fuel s = some (e, s') ∧ Q s'
  | 0, i, fuel + 1, s, hp, _, h, _ => by
    obtain ⟨s', h1, h2⟩ := h s hp
    refine ⟨s', ?_, h2⟩
    simp only [iter, h1]
    cases e with
    | nrm => exact absurd rfl he
    | _ => rfl
  | k + 1, i, fuel + 1, s, hp, hr, h, hk => by
    obtain ⟨s', h1, h2⟩ := hr i (Nat.le_refl _) (by omega) s hp
    simp only [iter, h1]
    exact iter_inv P he Q k (i + 1) fuel _ h2 (fun j h3 h4 => hr j (by omega) (by omega)) (by rw [show i + 1 + k = i + (k + 1) by omega]; exact h) (by omega)
theorem splitN_neq (c : Nat) : ∀ s : List Nat, splitN c s ≠ []
  | [] => by simp [splitN]
  | x :: xs => by
    unfold splitN
    split
    · simp
    · split <;> simp
end Mini
end Go.Proofs.YtgjlofpfbhioaaaGreatDoor
namespace Go.Proofs.YtgjlofpfbhioaaaGreatDoor
namespace Mini
open Go
variable {m : Int} {X : Ctx}
theorem flD_len {α : Type} {f : α → List D} {k : Nat} : ∀ {l : List α}, (∀ x ∈ l, (f x).length = k) → (l.flatMap f).length = l.length * k
  | [], _ => by simp
  | x :: l, h => by
    rw [List.flatMap_cons, List.length_append, h x List.mem_cons_self, flD_len (fun y hy => h y (List.mem_cons_of_mem _ hy)), List.length_cons, Nat.succ_mul]
    omega
theorem flD_drop {α : Type} {f : α → List D} {k : Nat} : ∀ {l : List α} {i : Nat}, (∀ x ∈ l, (f x).length = k) → (l.flatMap f).drop (i * k) = (l.drop i).flatMap f
  | l, 0, _ => by simp
  | [], i + 1, _ => by simp
  | x :: l, i + 1, h => by
    rw [List.flatMap_cons, List.drop_succ_cons, show (i + 1) * k = k + i * k by rw [Nat.succ_mul]; omega, ← List.drop_drop]
    have hk := h x List.mem_cons_self
    rw [show List.drop k (f x ++ l.flatMap f) = l.flatMap f by rw [← hk]; simp]
    exact flD_drop (fun y hy => h y (List.mem_cons_of_mem _ hy))
theorem lt5_0 (n : Nat) : (0 < n + 1 + 1 + 1 + 1 + 1) = True := eq_true (by omega)
theorem lt5_1 (n : Nat) : (1 < n + 1 + 1 + 1 + 1 + 1) = True := eq_true (by omega)
theorem lt5_2 (n : Nat) : (2 < n + 1 + 1 + 1 + 1 + 1) = True := eq_true (by omega)
theorem lt5_3 (n : Nat) : (3 < n + 1 + 1 + 1 + 1 + 1) = True := eq_true (by omega)
theorem lt5_4 (n : Nat) : (4 < n + 1 + 1 + 1 + 1 + 1) = True := eq_true (by omega)
structure An where
  s : List Nat
  w : D
  l : List Oid
  e : Bool
  nm : Bool
  na : Bool
end Mini
end Go.Proofs.YtgjlofpfbhioaaaGreatDoor
namespace Go.Proofs.YtgjlofpfbhioaaaGreatDoor
namespace Mini
open Go
variable {m : Int} {X : Ctx}
theorem beqS (s t : List Nat) : (s == t) = decide (s = t) := by
  by_cases h : s = t
  · subst h; simp
  · rw [decide_eq_false h]; simpa using h
end Mini
end Go.Proofs.YtgjlofpfbhioaaaGreatDoor
namespace Go.Proofs.YtgjlofpfbhioaaaGreatDoor
namespace Mini
open Go
variable {m : Int} {X : Ctx}
def setT (l : List Oid) : List Nat := joinN [44] (l.map textO)
theorem textO_len (o : Oid) (h : o.1 ≤ 16) : (textO o).length ≤ 352 := by
  have := joinN_len [46] 21 ((arcsO o).map decN) (fun x hx => by
    obtain ⟨n, _, rfl⟩ := List.mem_map.1 hx
    exact (decF_len 20 n).1)
  have h2 : ((arcsO o).map decN).length ≤ 16 := by rw [List.length_map, arcsO, List.length_take]; omega
  simp only [List.length_cons, List.length_nil] at this
  unfold textO
  omega
theorem joinN_mem (sep : List Nat) {c : Nat} : ∀ {l : List (List Nat)}, c ∈ joinN sep l → c ∈ sep ∨ ∃ x ∈ l, c ∈ x
  | [], h => by simp [joinN] at h
  | [x], h => .inr ⟨x, by simp, by simpa [joinN] using h⟩
  | x :: y :: l, h => by
    rw [joinN, List.mem_append, List.mem_append] at h
    rcases h with (h | h) | h
    · exact .inr ⟨x, by simp, h⟩
    · exact .inl h
    · rcases joinN_mem sep h with h | ⟨z, h1, h2⟩
      · exact .inl h
      · exact .inr ⟨z, List.mem_cons_of_mem _ h1, h2⟩
theorem textO_byte (o : Oid) : ∀ c ∈ textO o, c < 256 := fun c hc => by
  rcases joinN_mem [46] hc with h | ⟨x, h1, h2⟩
  · rw [List.mem_singleton] at h; omega
  · obtain ⟨n, _, rfl⟩ := List.mem_map.1 h1
    exact decF_byte 20 n c h2
theorem setT_byte (l : List Oid) : ∀ c ∈ setT l, c < 256 := fun c hc => by
  rcases joinN_mem [44] hc with h | ⟨x, h1, h2⟩
  · rw [List.mem_singleton] at h; omega
  · obtain ⟨o, _, rfl⟩ := List.mem_map.1 h1
    exact textO_byte o c h2
theorem setT_len (l : List Oid) (h : ∀ o ∈ l, o.1 ≤ 16) : (setT l).length ≤ l.length * 353 := by
  have := joinN_len [44] 352 (l.map textO) (fun x hx => by
    obtain ⟨o, ho, rfl⟩ := List.mem_map.1 hx
    exact textO_len o (h o ho))
  simpa [setT] using this
theorem nameB_ok {s : List Nat} (h : nameB s = true) : 0 < s.length ∧ s.length ≤ 32 ∧ ∀ c ∈ s, okB c = true := by
  simp only [nameB, Bool.and_eq_true, decide_eq_true_eq, List.all_eq_true] at h
  exact ⟨h.1.1.1, h.1.1.2, h.2⟩
theorem okB_byte {c : Nat} (h : okB c = true) : c < 256 := by
  simp only [okB, letB, digB, Bool.or_eq_true, Bool.and_eq_true, decide_eq_true_eq] at h
  omega
theorem firstE_zero {f : Nat → Nat} {n : Nat} (h : firstE f n = 0) : ∀ j, j < n → f j = 0 := by
  rcases first_lt (fun j => f j ≠ 0) n with h1 | ⟨k, h1, h2, h3⟩
  · exact fun j hj => Decidable.not_not.1 (h1 j hj)
  · rw [firstE_hit f h2 h3 n h1] at h; exact absurd h h2
theorem chkS_len {l : List Oid} (h : chkS l = 0) : l.length ≤ 256 := by
  unfold chkS at h
  split at h
  · cases h
  · omega
theorem chkS_ok {l : List Oid} (h : chkS l = 0) : ∀ o ∈ l, chkO o = 0 := fun o ho => by
  have hl := chkS_len h
  obtain ⟨i, hi, rfl⟩ := mem_getD ho
  unfold chkS at h
  rw [if_neg (by omega)] at h
  have := firstE_zero h i hi
  unfold errAt at this
  by_cases hz : chkO (l.getD i o0) = 0
  · exact hz
  · rw [if_pos hz] at this; exact this
theorem chkO_n {o : Oid} (h : chkO o = 0) : 2 ≤ o.1 ∧ o.1 ≤ 16 := by
  unfold chkO at h
  split at h
  · cases h
  · omega
end Mini
end Go.Proofs.YtgjlofpfbhioaaaGreatDoor
namespace Go.Proofs.YtgjlofpfbhioaaaGreatDoor
namespace Mini
open Go
variable {m : Int} {X : Ctx}
theorem setT_succ (l : List Oid) {j : Nat} (hj : j < l.length) : setT (l.take (j + 1)) = setT (l.take j) ++ (if j = 0 then [] else [44]) ++ textO (l.getD j o0) := by
  unfold setT
  have hx : l[j]? = some (l.getD j o0) := by rw [List.getD_eq_getElem?_getD, List.getElem?_eq_getElem hj]; rfl
  rw [List.take_add_one, hx, Option.toList_some, List.map_append, List.map_cons, List.map_nil, joinN_snoc]
  by_cases hz : j = 0
  · subst hz; simp [joinN]
  · have : ¬ (l.take j).map textO = [] := by
      intro h
      have := congrArg List.length h
      rw [List.length_map, List.length_take, List.length_nil] at this
      omega
    rw [if_neg this, if_neg hz, List.append_assoc]
theorem setT_take (l : List Oid) (h : ∀ o ∈ l, o.1 ≤ 16) (j : Nat) : (setT (l.take j)).length ≤ l.length * 353 := by
  have := setT_len (l.take j) (fun o ho => h o (List.mem_of_mem_take ho))
  rw [List.length_take] at this
  have h2 : min j l.length * 353 ≤ l.length * 353 := Nat.mul_le_mul_right _ (Nat.min_le_right _ _)
  exact Nat.le_trans this h2
end Mini
end Go.Proofs.YtgjlofpfbhioaaaGreatDoor
namespace Go.Proofs.YtgjlofpfbhioaaaGreatDoor
namespace Mini
open Go
variable {m : Int} {X : Ctx}
def decB (s : List Nat) : Bool := decide (s = [48]) || (decide (s ≠ []) && decide (s.getD 0 0 ≠ 48) && s.all isDig)
theorem digs_is (b : Nat) : digs.contains b = isDig b := by
  rw [Bool.eq_iff_iff]
  simp only [digs, isDig, List.contains_cons, List.contains_nil, Bool.or_false, Bool.or_eq_true, beq_iff_eq, Bool.and_eq_true, Nat.ble_eq]
  omega
theorem dropWhile_nil {α : Type} (p : α → Bool) : ∀ l : List α, l.dropWhile p = [] ↔ l.all p = true
  | [] => by simp
  | x :: l => by
    cases h : p x
    · simp [List.dropWhile, h]
    · simp only [List.dropWhile, h, List.all_cons, Bool.true_and]
      exact dropWhile_nil p l
theorem dropWhile_sub {α : Type} (p : α → Bool) : ∀ (l : List α), (∀ x ∈ l.dropWhile p, x ∈ l)
  | [] => by simp
  | x :: l => by
    cases h : p x
    · simp [List.dropWhile, h]
    · simp only [List.dropWhile, h]
      exact fun y hy => List.mem_cons_of_mem _ (dropWhile_sub p l y hy)
theorem dropWhile_head {α : Type} (p : α → Bool) : ∀ (l : List α) (x : α) (t : List α), l.dropWhile p = x :: t → p x = false
  | [], _, _, h => by simp at h
  | y :: l, x, t, h => by
    cases hy : p y
    · simp only [List.dropWhile, hy, List.cons.injEq] at h
      rw [← h.1]; exact hy
    · simp only [List.dropWhile, hy] at h
      exact dropWhile_head p l x t h
theorem trim_nil (s : List Nat) : (trimN digs s == []) = s.all isDig := by
  have hp : (fun b => digs.contains b) = isDig := funext digs_is
  unfold trimN
  have hp2 : (digs.contains ·) = isDig := hp
  rw [hp2]
  rw [Bool.eq_iff_iff, beq_iff_eq, dropWhile_nil]
  constructor
  · intro h
    have h1 : s.reverse.dropWhile isDig = [] := by
      cases hd : s.reverse.dropWhile isDig with
      | nil => rfl
      | cons x t =>
        have hx := dropWhile_head isDig _ _ _ hd
        rw [hd, List.all_eq_true] at h
        have := h x (by simp)
        rw [hx] at this; cases this
    have h2 := (dropWhile_nil isDig _).1 h1
    rw [List.all_eq_true] at h2 ⊢
    exact fun x hx => h2 x (List.mem_reverse.2 hx)
  · intro h
    rw [List.all_eq_true] at h ⊢
    exact fun x hx => h x (List.mem_reverse.1 (dropWhile_sub isDig _ x (List.mem_reverse.1 hx)))
theorem f118 (hX : XOk m X) {N : Nat} (hN : 1 ≤ N) {s : List Nat} (hs : s.length < 4294967281) : vcallN X N 118 [strV s] = some (bl (decB s)) := by
  obtain ⟨N, rfl⟩ : ∃ M, N = M + 1 := ⟨N - 1, by omega⟩
  refine vcall_of (r := bl (decB s)) (H := []) ?_ rfl
  rw [hX.fn (F := fn118) rfl]
  refine (rf_fin _ _ _ _ _ _ _ _ _ (by rfl)).trans ?_
  by_cases c1 : s = [48]
  · subst c1
    have g1 : (([48] : List Nat) == [48]) = true := rfl
    have g2 : decB [48] = true := rfl
    simp only [strV, binStr, g1, g2, evs, Nat.reduceSub]
  have g1 : (s == [48]) = false := by rw [beqS]; exact decide_eq_false c1
  by_cases c2 : s = []
  · subst c2
    have g2 : (([] : List Nat) == []) = true := rfl
    have g3 : decB [] = false := rfl
    simp only [strV, binStr, g1, g2, g3, Bool.not_true, evs, Nat.reduceSub]
  have g2 : (s == []) = false := by rw [beqS]; exact decide_eq_false c2
  have hp : 0 < s.length := by
    rcases Nat.eq_zero_or_pos s.length with h | h
    · exact absurd (List.length_eq_zero_iff.1 h) c2
    · exact h
  have h3 : s[0]? = some (s.getD 0 0) := by rw [List.getD_eq_getElem?_getD, List.getElem?_eq_getElem hp]; rfl
  by_cases c3 : s.getD 0 0 = 48
  · have g3 : decB s = false := by
      unfold decB
      rw [decide_eq_false c1, show decide (s.getD 0 0 ≠ 48) = false from by rw [c3]; rfl]
      simp
    rw [c3] at h3
    have g4 : (((48 : Nat) : Int) != 48) = false := rfl
    simp only [strV, binStr, g1, g2, g3, g4, h3, Bool.not_false, evs, Nat.reduceSub]
  · have g3 : decB s = s.all isDig := by
      unfold decB
      rw [decide_eq_false c1, decide_eq_true (show s ≠ [] from c2), decide_eq_true (show s.getD 0 0 ≠ 48 from c3)]
      rfl
    have g4 : ((s.getD 0 0 : Int) != 48) = true := by rw [bne_iff_ne]; omega
    have hpc : (zenv X N).prim 151 [.c (.d (.str s)), .c (.d (.str [48, 49, 50, 51, 52, 53, 54, 55, 56, 57]))] = some (.c (.d (.str (trimN digs s)))) := by
      rw [zenv_pr]
      refine hX.prim _ _ _ ?_
      have e : prim0 151 [.c (.d (.str s)), .c (.d (.str [48, 49, 50, 51, 52, 53, 54, 55, 56, 57]))] = if digs = digs ∧ s.length < 4294967281 then some (Str (trimN digs s)) else none := rfl
      rw [e, if_pos ⟨rfl, hs⟩]
    have g5 := trim_nil s
    simp only [strV, binStr, g1, g2, g3, g4, g5, h3, hpc, Bool.not_false, evs, Nat.reduceSub]
theorem f117 (hX : XOk m X) {N : Nat} (hN : 2 ≤ N) {s : List Nat} {H : Heap} (hs : s.length < 4294967281) : callN X N (.d (.fn 117 [] [])) [strV s] H = some (bl (!decB s), H) := by
  obtain ⟨N, rfl⟩ : ∃ M, N = M + 1 := ⟨N - 1, by omega⟩
  have h1 := hX.vc (k := 118) (F := fn118) rfl (f118 hX (N := N) (by omega) hs)
  rw [hX.fn (F := fn117) rfl]
  refine (rf_fin _ _ _ _ _ _ _ _ _ (by rfl)).trans ?_
  simp only [strV, bl] at h1
  simp only [strV, h1, evs, Nat.reduceSub]
def slS (ps : List (List Nat)) : D := .sl (ps.map D.str) ps.length
theorem slS_at (ps : List (List Nat)) {i : Nat} (h : i < ps.length) : ixac 1 i (.c (.d (slS ps))) = some (.c (.d (.ip (.str (ps.getD i []) :: (ps.drop (i + 1)).map D.str))), []) := by
  have h2 : (ps.map D.str).drop i = .str (ps.getD i []) :: (ps.drop (i + 1)).map D.str := by
    rw [List.getD_eq_getElem?_getD, List.getElem?_eq_getElem h, ← List.map_drop, List.drop_eq_getElem_cons h]
    rfl
  rw [slS, ixac, if_pos ⟨h, by simp; omega⟩, Nat.mul_one, h2]
theorem slS_len (ps : List (List Nat)) : lenc (.c (.d (slS ps))) = some (.c (.d (.int .i64 (ps.length : Int))), []) := rfl
theorem f150 (hX : XOk m X) {N : Nat} {ps : List (List Nat)} (hN : ps.length + 10 ≤ N) (hs : ∀ x ∈ ps, x.length < 4294967281) (hl : ps.length < 1000000000) : ∃ z : Int, vcallN X N 150 [.c (.d (slS ps)), .c (.d (.fn 117 [] []))] = some (i64 z) ∧ decide (z ≥ 0) = !ps.all decB := by
  obtain ⟨N, rfl⟩ : ∃ M, N = M + 1 := ⟨N - 1, by omega⟩
  have hF : fnsA 150 = some fn150' := rfl
  have hlw := slS_len ps
  have hmem : ∀ j, j < ps.length → ps.getD j [] ∈ ps := fun j hj => by
    rw [List.getD_eq_getElem?_getD, List.getElem?_eq_getElem hj]
    exact List.getElem_mem hj
  have hsc := iter_find (js := some [0, 1, 4, 5]) (hl := 0) (body := exec (zenv X N) N false fn150L0) (fun j => decB (ps.getD j []) = false) ps.length (fun i => ⟨[.c (.d (slS ps)), .c (.d (.fn 117 [] [])), .any, .any, i64 (ps.length : Int), i64 (i : Int), .any, .any], []⟩) (b := 0) (s1 := ⟨[.c (.d (slS ps)), .c (.d (.fn 117 [] [])), .any, .any, i64 (ps.length : Int), i64 (ps.length : Int), bl false, .any], []⟩) (Q := fun k s => s = ⟨[.c (.d (slS ps)), .c (.d (.fn 117 [] [])), i64 (k : Int), i64 (k : Int), i64 (ps.length : Int), i64 (k : Int), bl true, bl true], []⟩) (fuel := N) (by omega)
    (by
      intro j hj hp
      have hp : decB (ps.getD j []) = true := by simpa using hp
      have h1 := slS_at ps hj
      have h2 := f117 hX (N := N) (by omega) (H := []) (hs _ (hmem j hj))
      have h4 : (j : Int) < (ps.length : Int) := by omega
      have h5 := wrap_succ (k := j) (by omega)
      rw [hp] at h2
      simp only [strV] at h2
      refine ⟨⟨[.c (.d (slS ps)), .c (.d (.fn 117 [] [])), .any, i64 (j : Int), i64 (ps.length : Int), i64 ((j + 1 : Nat) : Int), bl true, bl false], []⟩, ?_, gc_le (Nat.le_refl 0)⟩
      simp only [fn150L0, h1, h2, h4, h5, Bool.not_true, List.take, List.map_cons, List.map_nil, ↓sp_ixa, evs])
    (by simp only [fn150L0, evs])
    (by
      intro j hj hp
      have h1 := slS_at ps hj
      have h2 := f117 hX (N := N) (by omega) (H := []) (hs _ (hmem j hj))
      have h4 : (j : Int) < (ps.length : Int) := by omega
      rw [hp] at h2
      simp only [strV] at h2
      refine ⟨_, ?_, rfl⟩
      simp only [fn150L0, h1, h2, h4, Bool.not_false, List.take, List.map_cons, List.map_nil, ↓sp_ixa, evs])
  simp only [i64, bl, Int.natCast_zero] at hsc
  rcases hsc with ⟨hno, hit⟩ | ⟨k, s', hk, hp, hno, rfl, hit⟩
  · refine ⟨-1, ?_, ?_⟩
    · refine vcall_of (r := i64 (-1)) (H := []) ?_ rfl
      rw [hX.fn hF]
      refine (rf_fin _ _ _ _ _ _ _ _ _ (by rfl)).trans ?_
      simp only [hlw, hit, ↓sp_len, evs, Nat.reduceAdd, Nat.reduceBEq, Nat.reduceSub]
    · have : ps.all decB = true := by
        rw [List.all_eq_true]
        intro x hx
        obtain ⟨i, hi, rfl⟩ := List.getElem_of_mem hx
        have := hno i hi
        rw [List.getD_eq_getElem?_getD, List.getElem?_eq_getElem hi, Option.getD_some] at this
        simpa using this
      rw [this]; rfl
  · refine ⟨(k : Int), ?_, ?_⟩
    · refine vcall_of (r := i64 (k : Int)) (H := []) ?_ rfl
      rw [hX.fn hF]
      refine (rf_fin _ _ _ _ _ _ _ _ _ (by rfl)).trans ?_
      simp only [hlw, hit, ↓sp_len, evs, Nat.reduceAdd, Nat.reduceBEq, Nat.reduceSub]
    · have : ps.all decB = false := by
        rw [List.all_eq_false]
        exact ⟨_, hmem k hk, by rw [hp]; simp⟩
      rw [this]
      simp
theorem f116 (hX : XOk m X) {N : Nat} {ps : List (List Nat)} (hN : ps.length + 11 ≤ N) (hs : ∀ x ∈ ps, x.length < 4294967281) (hl : ps.length < 1000000000) : vcallN X N 116 [.c (.d (slS ps)), .c (.d (.fn 117 [] []))] = some (bl (!ps.all decB)) := by
  obtain ⟨N, rfl⟩ : ∃ M, N = M + 1 := ⟨N - 1, by omega⟩
  obtain ⟨z, h1, h2⟩ := f150 hX (N := N) (by omega) hs hl
  have h1 := hX.vc (k := 150) (F := fn150) rfl h1
  refine vcall_of (r := bl (!ps.all decB)) (H := []) ?_ rfl
  rw [hX.fn (F := fn116) rfl]
  refine (rf_fin _ _ _ _ _ _ _ _ _ (by rfl)).trans ?_
  simp only [i64] at h1
  simp only [h1, h2, evs, Nat.reduceAdd, Nat.reduceSub]
end Mini
end Go.Proofs.YtgjlofpfbhioaaaGreatDoor
