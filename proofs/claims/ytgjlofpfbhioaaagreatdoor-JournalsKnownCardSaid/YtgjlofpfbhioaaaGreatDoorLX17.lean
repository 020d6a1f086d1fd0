/-
  JournalsKnown: texts of the proof, part 18.
-/
import Derived.Test.YtgjlofpfbhioaaaGreatDoorLX16
namespace Go.Proofs.YtgjlofpfbhioaaaGreatDoor
namespace Mini
open Go
variable {m : Int} {X : Ctx}
structure En where
  s : List Nat
  acc : Bool
  r : Nat
  t : Int
  w : D
  l : List Oid
def enC (s : List Nat) (acc : Bool) (r : Nat) (t : Int) (w : D) : List C := [.d (.str s), .d (.bool acc), .d (.int .u8 (r : Int)), .d (.int .i64 t), .d w]
def badE (acc : Bool) (r : Nat) (t : Int) (n : Nat) : Prop := (acc = true ∧ (r ≠ 0 ∨ t ≠ 0)) ∨ (acc = false ∧ (r < 1 ∨ 3 < r ∨ t < 0 ∨ 63 < t ∨ 0 < n))
instance (acc : Bool) (r : Nat) (t : Int) (n : Nat) : Decidable (badE acc r t n) := by unfold badE; infer_instance
def chkE (s : List Nat) (acc : Bool) (r : Nat) (t : Int) (l : List Oid) : Nat := if nameB s = false then 18 else if badE acc r t l.length then 1 else chkS l
theorem f48 (hX : XOj m X) {N : Nat} {s : List Nat} {acc : Bool} {r : Nat} {t : Int} {w : D} {l : List Oid} (hN : s.length + 500 ≤ N) (hs : s.length < 1000000) (hw : isSet w l) (hl : wfS l) (hlen : l.length < 1000000) : vcallN X N 48 [.agg (enC s acc r t w)] = some (i64 (chkE s acc r t l)) := by
  obtain ⟨N, rfl⟩ : ∃ M, N = M + 1 := ⟨N - 1, by omega⟩
  have hF : fnsX 48 = some fn48' := rfl
  have hx := hX.x
  have h83 := hx.vc (k := 83) (F := fn83) rfl (f83 hx (N := N) (by omega))
  have h19 := hx.vc (k := 19) (F := fn19) rfl (f19 hx (N := N) (by omega) hw hl hlen)
  have hln := hw.len
  have hcA : chkA s [anyO] = if nameB s = false then 18 else 0 := by
    unfold chkA
    rw [if_neg (show ¬ chkS [anyO] ≠ 0 by decide), if_neg (show ¬ [anyO].length = 0 by decide)]
  have hso : slO [anyO] = .sl (oD anyO) 1 := by simp [slO]
  have h33 := hx.vc (k := 33) (F := fn33) rfl (f33g hx (N := N) (s := s) (w := slO [anyO]) (u := [anyO]) (b1 := false) (b2 := false) (b3 := false) (by omega) hs (.inr rfl) (fun o ho => by
    rw [List.mem_singleton] at ho
    subst ho
    exact ⟨by decide, rfl, by decide⟩) (by decide))
  rw [hcA, hso] at h33
  have hoc : ∀ H k, mapO (deepC H k) (oC anyO) = some (oD anyO) := fun H k => mapO_d H k _
  have hol : (oC anyO).length = 17 := rfl
  have hot : (oC anyO).take 17 = oC anyO := rfl
  have hfl : (oC anyO).all C.flat = true := rfl
  have rep1 : ∀ z : List C, rep z 1 = z := fun z => by simp [rep]
  have hd83 := h83
  clear h83 hcA hso
  generalize oC anyO = oc at *
  generalize oD anyO = od at *
  refine vcall_of (r := i64 (chkE s acc r t l)) (H := [.cells (enC s acc r t w) 0 false, .cells oc 0 false]) ?_ rfl
  rw [hX.fn hF]
  simp only [i64, anC] at h19 h33
  unfold chkE
  cases hn : nameB s
  · rw [hn] at h33
    simp only [if_true, Int.cast_ofNat_Int] at h33
    rw [if_pos rfl]
    have g1 : ((18 : Int) != 0) = true := rfl
    refine (rf_fin _ _ _ _ _ _ _ _ _ (by rfl)).trans ?_
    simp only [g1, Int.cast_ofNat_Int, ob?, enC, lay, rep1, splice, hd83, h33, hfl, hoc, hot, hol, deepMax, List.take, List.drop, List.map_cons, List.map_nil, evs, Nat.reduceAdd, Nat.reduceLeDiff, Nat.reduceSub]
  rw [hn] at h33
  simp only [Bool.true_eq_false, if_false, Int.natCast_zero] at h33
  rw [if_neg (by simp)]
  have g0 : ((0 : Int) != 0) = false := rfl
  cases acc
  · by_cases c1 : (r : Int) < 1
    · rw [if_pos (show badE false r t l.length by unfold badE; simp only [reduceCtorEq, false_and, true_and, false_or]; omega)]
      refine (rf_fin _ _ _ _ _ _ _ _ _ (by rfl)).trans ?_
      simp only [g0, Int.cast_ofNat_Int, c1, ob?, enC, lay, rep1, splice, hd83, h33, hfl, hoc, hot, hol, deepMax, List.take, List.drop, List.map_cons, List.map_nil, Bool.not_false, evs, Nat.reduceAdd, Nat.reduceLeDiff, Nat.reduceSub]
    by_cases c2 : (r : Int) > 3
    · rw [if_pos (show badE false r t l.length by unfold badE; simp only [reduceCtorEq, false_and, true_and, false_or]; omega)]
      refine (rf_fin _ _ _ _ _ _ _ _ _ (by rfl)).trans ?_
      simp only [g0, Int.cast_ofNat_Int, c1, c2, ob?, enC, lay, rep1, splice, hd83, h33, hfl, hoc, hot, hol, deepMax, List.take, List.drop, List.map_cons, List.map_nil, Bool.not_false, evs, Nat.reduceAdd, Nat.reduceLeDiff, Nat.reduceSub]
    by_cases c3 : t < 0
    · rw [if_pos (show badE false r t l.length by unfold badE; simp only [reduceCtorEq, false_and, true_and, false_or]; omega)]
      refine (rf_fin _ _ _ _ _ _ _ _ _ (by rfl)).trans ?_
      simp only [g0, Int.cast_ofNat_Int, c1, c2, c3, ob?, enC, lay, rep1, splice, hd83, h33, hfl, hoc, hot, hol, deepMax, List.take, List.drop, List.map_cons, List.map_nil, Bool.not_false, evs, Nat.reduceAdd, Nat.reduceLeDiff, Nat.reduceSub]
    by_cases c4 : t ≥ 64
    · rw [if_pos (show badE false r t l.length by unfold badE; simp only [reduceCtorEq, false_and, true_and, false_or]; omega)]
      refine (rf_fin _ _ _ _ _ _ _ _ _ (by rfl)).trans ?_
      simp only [g0, Int.cast_ofNat_Int, c1, c2, c3, c4, ob?, enC, lay, rep1, splice, hd83, h33, hfl, hoc, hot, hol, deepMax, List.take, List.drop, List.map_cons, List.map_nil, Bool.not_false, evs, Nat.reduceAdd, Nat.reduceLeDiff, Nat.reduceSub]
    by_cases c5 : (l.length : Int) > 0
    · rw [if_pos (show badE false r t l.length by unfold badE; simp only [reduceCtorEq, false_and, true_and, false_or]; omega)]
      refine (rf_fin _ _ _ _ _ _ _ _ _ (by rfl)).trans ?_
      simp only [g0, Int.cast_ofNat_Int, c1, c2, c3, c4, c5, ob?, enC, lay, rep1, splice, hd83, h33, hfl, hln, hoc, hot, hol, deepMax, List.take, List.drop, List.map_cons, List.map_nil, Bool.not_false, ↓sp_len, evs, Nat.reduceAdd, Nat.reduceLeDiff, Nat.reduceSub]
    rw [if_neg (show ¬ badE false r t l.length by unfold badE; simp only [reduceCtorEq, false_and, true_and, false_or]; omega)]
    refine (rf_fin _ _ _ _ _ _ _ _ _ (by rfl)).trans ?_
    simp only [g0, h19, c1, c2, c3, c4, c5, ob?, enC, lay, rep1, splice, hd83, h33, hfl, hln, hoc, hot, hol, deepMax, List.take, List.drop, List.map_cons, List.map_nil, Bool.not_false, ↓sp_len, evs, Nat.reduceAdd, Nat.reduceLeDiff, Nat.reduceSub]
  · by_cases c1 : r = 0
    · subst c1
      have g1 : (((0 : Nat) : Int) != 0) = false := rfl
      by_cases c2 : t = 0
      · subst c2
        rw [if_neg (show ¬ badE true 0 0 l.length by unfold badE; simp only [reduceCtorEq, false_and, true_and, or_false]; omega)]
        refine (rf_fin _ _ _ _ _ _ _ _ _ (by rfl)).trans ?_
        simp only [g0, h19, Int.cast_ofNat_Int, ob?, enC, lay, rep1, splice, hd83, h33, hfl, hoc, hot, hol, deepMax, List.take, List.drop, List.map_cons, List.map_nil, Bool.not_true, evs, Nat.reduceAdd, Nat.reduceLeDiff, Nat.reduceSub]
      · have g2 : (t != 0) = true := by rw [bne_iff_ne]; exact c2
        rw [if_pos (show badE true 0 t l.length by unfold badE; simp only [reduceCtorEq, false_and, true_and, or_false]; omega)]
        refine (rf_fin _ _ _ _ _ _ _ _ _ (by rfl)).trans ?_
        simp only [g0, g2, Int.cast_ofNat_Int, ob?, enC, lay, rep1, splice, hd83, h33, hfl, hoc, hot, hol, deepMax, List.take, List.drop, List.map_cons, List.map_nil, evs, Nat.reduceAdd, Nat.reduceLeDiff, Nat.reduceSub]
    · have g2 : ((r : Int) != 0) = true := by rw [bne_iff_ne]; omega
      rw [if_pos (show badE true r t l.length by unfold badE; simp only [reduceCtorEq, false_and, true_and, or_false]; omega)]
      refine (rf_fin _ _ _ _ _ _ _ _ _ (by rfl)).trans ?_
      simp only [g0, g2, Int.cast_ofNat_Int, ob?, enC, lay, rep1, splice, hd83, h33, hfl, hoc, hot, hol, deepMax, List.take, List.drop, List.map_cons, List.map_nil, evs, Nat.reduceAdd, Nat.reduceLeDiff, Nat.reduceSub]
end Mini
end Go.Proofs.YtgjlofpfbhioaaaGreatDoor
namespace Go.Proofs.YtgjlofpfbhioaaaGreatDoor
namespace Mini
open Go
variable {m : Int} {X : Ctx}
abbrev i64D (n : Nat) : D := .int .i64 (n : Int)
theorem r50 {E : Env} {N : Nat} {n : Nat} {s : List Nat} (hn : n < 4294967296) (hs : s.length < 1000) : exec E N false fn50L0 ⟨[.c (.d (i64D n)), .any, strV s, bl true, .any], []⟩ = some (.nrm, ⟨[.c (.d (i64D (n / 10))), .any, strV ((48 + n % 10) :: s), bl (decide (((n / 10 : Nat) : Int) > 0)), bl true], [.cells [.d (.int .u8 ((48 + n % 10 : Nat) : Int))] 0 false]⟩) := by
  have h1 : (n : Int).tmod 10 = ((n % 10 : Nat) : Int) := (Int.ofNat_tmod n 10).symm
  have h2 : (n : Int).tdiv 10 = ((n / 10 : Nat) : Int) := (Int.ofNat_tdiv n 10).symm
  have h3 : IntKind.i64.wrap (48 + ((n % 10 : Nat) : Int)) = ((48 + n % 10 : Nat) : Int) := by
    rw [← wrap_nat (k := 48 + n % 10) (by omega)]; rfl
  have h4 : IntKind.u8.wrap ((48 + n % 10 : Nat) : Int) = ((48 + n % 10 : Nat) : Int) := wrap_u8 (by omega)
  have h5 : IntKind.i64.wrap ((n / 10 : Nat) : Int) = ((n / 10 : Nat) : Int) := wrap_nat (by omega)
  have h6 : bytesOf [C.d (.int .u8 ((48 + n % 10 : Nat) : Int))] = some [48 + n % 10] := bytesOf_of (s := [48 + n % 10]) (fun b hb => by rw [List.mem_singleton] at hb; omega)
  have h7 : 1 + s.length ≤ 1073741824 := by omega
  have h8 : ((10 : Int) = 0) = False := by simp
  generalize 48 + n % 10 = d at *
  generalize n / 10 = q at *
  simp only [fn50L0, strV, i64D, ob?, h1, h2, h3, h4, h5, h6, h7, h8, binStr, elems, lay, rep, splice, List.take, List.drop, List.map_cons, List.map_nil, evs, Nat.reduceLeDiff]
theorem it50 {E : Env} {N : Nat} : ∀ (f n : Nat) (s : List Nat) (fuel : Nat), n < 10 ^ (f + 1) → n < 4294967296 → s.length + f < 1000 → f + 2 ≤ fuel → iter (some [0, 2, 3]) 0 (exec E N false fn50L0) fuel ⟨[.c (.d (i64D n)), .any, strV s, bl true, .any], []⟩ = some (.exit 0, ⟨[.c (.d (i64D 0)), .any, strV (decF f n ++ s), bl false, bl false], []⟩) := by
  have hend : ∀ (s : List Nat), exec E N false fn50L0 ⟨[.c (.d (i64D 0)), .any, strV s, bl false, .any], []⟩ = some (.exit 0, ⟨[.c (.d (i64D 0)), .any, strV s, bl false, bl false], []⟩) := fun s => by
    simp only [fn50L0, evs]
  intro f
  induction f with
  | zero =>
    intro n s fuel hn hn2 hs hf
    obtain ⟨fuel, rfl⟩ : ∃ k, fuel = k + 2 := ⟨fuel - 2, by omega⟩
    have hq : n / 10 = 0 := by omega
    have hr := r50 (E := E) (N := N) hn2 (s := s) (by omega)
    rw [hq] at hr
    rw [iter_step hr]
    have ht : tidy 0 (some [0, 2, 3]) ⟨[.c (.d (i64D 0)), .any, strV ((48 + n % 10) :: s), bl (decide (((0 : Nat) : Int) > 0)), bl true], [.cells [.d (.int .u8 ((48 + n % 10 : Nat) : Int))] 0 false]⟩ = ⟨[.c (.d (i64D 0)), .any, strV ((48 + n % 10) :: s), bl false, .any], []⟩ := gc_yes rfl rfl
    rw [ht, iter_stop (hend _)]
    rfl
  | succ f ih =>
    intro n s fuel hn hn2 hs hf
    obtain ⟨fuel, rfl⟩ : ∃ k, fuel = k + 1 := ⟨fuel - 1, by omega⟩
    have hr := r50 (E := E) (N := N) hn2 (s := s) (by omega)
    rw [iter_step hr]
    by_cases hq : n < 10
    · have hq0 : n / 10 = 0 := by omega
      obtain ⟨fuel, rfl⟩ : ∃ k, fuel = k + 1 := ⟨fuel - 1, by omega⟩
      rw [hq0]
      have ht : tidy 0 (some [0, 2, 3]) ⟨[.c (.d (i64D 0)), .any, strV ((48 + n % 10) :: s), bl (decide (((0 : Nat) : Int) > 0)), bl true], [.cells [.d (.int .u8 ((48 + n % 10 : Nat) : Int))] 0 false]⟩ = ⟨[.c (.d (i64D 0)), .any, strV ((48 + n % 10) :: s), bl false, .any], []⟩ := gc_yes rfl rfl
      rw [ht, iter_stop (hend _), decF, if_pos hq, Nat.mod_eq_of_lt hq]
      rfl
    · have hd : decide (((n / 10 : Nat) : Int) > 0) = true := decide_eq_true (by omega)
      rw [hd]
      have ht : tidy 0 (some [0, 2, 3]) ⟨[.c (.d (i64D (n / 10))), .any, strV ((48 + n % 10) :: s), bl true, bl true], [.cells [.d (.int .u8 ((48 + n % 10 : Nat) : Int))] 0 false]⟩ = ⟨[.c (.d (i64D (n / 10))), .any, strV ((48 + n % 10) :: s), bl true, .any], []⟩ := gc_yes rfl rfl
      rw [ht, ih (n / 10) _ fuel (by rw [Nat.pow_succ] at hn; omega) (by omega) (by simp only [List.length_cons]; omega) (by omega), decF, if_neg hq, List.append_assoc]
      rfl
theorem f50 (hX : XOj m X) {N : Nat} (hN : 40 ≤ N) {n : Nat} (hn : n < 4294967296) : vcallN X N 50 [.c (.d (i64D n))] = some (strV (decN n)) := by
  obtain ⟨N, rfl⟩ : ∃ M, N = M + 1 := ⟨N - 1, by omega⟩
  have hF : fnsX 50 = some fn50' := rfl
  have hit := it50 (E := zenv X N) (N := N) 20 n [] N (Nat.lt_of_lt_of_le hn (by decide)) hn (by simp) (by omega)
  refine vcall_of (r := strV (decN n)) (H := []) ?_ rfl
  rw [hX.fn hF]
  refine (rf_fin _ _ _ _ _ _ _ _ _ (by rfl)).trans ?_
  simp only [strV, bl, List.append_nil] at hit ⊢
  simp only [decN, hit, evs, Nat.reduceAdd, Nat.reduceBEq, Nat.reduceSub]
def wRej : List Nat := [32, 114, 101, 106, 101, 99, 116, 101, 100, 32]
def wAcc : List Nat := [32, 97, 99, 99, 101, 112, 116, 101, 100, 32]
def bodyE (s : List Nat) (acc : Bool) (r : Nat) (t : Int) (l : List Oid) : List Nat := if acc = false then s ++ wRej ++ reasT r ++ [32] ++ decN t.toNat else if l.length = 0 then s ++ wAcc ++ [45] else s ++ wAcc ++ setT l
theorem chkE_parts {s : List Nat} {acc : Bool} {r : Nat} {t : Int} {l : List Oid} (h : chkE s acc r t l = 0) : nameB s = true ∧ ¬ badE acc r t l.length ∧ chkS l = 0 := by
  unfold chkE at h
  by_cases h1 : nameB s = false
  · rw [if_pos h1] at h; cases h
  · rw [if_neg h1] at h
    by_cases h2 : badE acc r t l.length
    · rw [if_pos h2] at h; cases h
    · rw [if_neg h2] at h
      exact ⟨by simpa using h1, h2, h⟩
theorem chkE_rej {s : List Nat} {r : Nat} {t : Int} {l : List Oid} (h : chkE s false r t l = 0) : 1 ≤ r ∧ r ≤ 3 ∧ 0 ≤ t ∧ t ≤ 63 ∧ l.length = 0 := by
  have := (chkE_parts h).2.1
  simp only [badE, reduceCtorEq, false_and, true_and, false_or] at this
  omega
theorem reas_at {r : Nat} (h : r < 4) : ixac 1 r (.c (.d reasD)) = some (.c (.d (.ip (D.str (reasT r) :: ([D.str [], D.str [109, 97, 112, 112, 101, 100], D.str [118, 97, 108, 105, 100], D.str [117, 115, 101, 114]].drop (r + 1))))), []) := by
  have : r = 0 ∨ r = 1 ∨ r = 2 ∨ r = 3 := by omega
  rcases this with rfl | rfl | rfl | rfl <;> rfl
theorem reasT_len (r : Nat) : (reasT r).length ≤ 6 := by
  unfold reasT
  split
  · decide
  split
  · decide
  split
  · decide
  · decide
theorem f49 (hX : XOj m X) {N : Nat} (hN : 400 ≤ N) {s : List Nat} {acc : Bool} {r : Nat} {t : Int} {w : D} {l : List Oid} (hw : isSet w l) (hl : wfS l) (hc : chkE s acc r t l = 0) : vcallN X N 49 [.agg (enC s acc r t w)] = some (strV (bodyE s acc r t l)) := by
  obtain ⟨N, rfl⟩ : ∃ M, N = M + 1 := ⟨N - 1, by omega⟩
  have hF : fnsX 49 = some fn49' := rfl
  obtain ⟨p1, p2, p3⟩ := chkE_parts hc
  have k1 := nameB_ok p1
  have k3 := chkS_len p3
  have k4 := chkS_ok p3
  have hx := hX.x
  have hln := hw.len
  refine vcall_of (r := strV (bodyE s acc r t l)) (H := [.cells (enC s acc r t w) 0 false]) ?_ rfl
  rw [hX.fn hF]
  unfold bodyE
  cases acc
  · rw [if_pos rfl]
    obtain ⟨e1, e2, e3, e4, e5⟩ := chkE_rej hc
    obtain ⟨n, rfl⟩ := Int.eq_ofNat_of_zero_le e3
    have h77 := hX.vc (k := 77) (F := fn77) rfl (f77 hX (N := N) (by omega))
    have h50 := hX.vc (k := 50) (F := fn50) rfl (f50 hX (N := N) (by omega) (n := n) (by omega))
    have hra := reas_at (r := r) (by omega)
    have hrf : reasD.flat = false := rfl
    have hrl := reasT_len r
    have hdl := (decF_len 20 n).1
    have an : asNat (.c (.d (.int .u8 (r : Int)))) = some r := by simp [asNat, asInt]
    have hto : (n : Int).toNat = n := Int.toNat_natCast n
    rw [hto]
    have g1 : s.length + 10 ≤ 1073741824 := by omega
    have g2 : s.length + 10 + (reasT r).length ≤ 1073741824 := by omega
    have g3 : s.length + 10 + (reasT r).length + 1 ≤ 1073741824 := by omega
    have g4 : s.length + 10 + (reasT r).length + 1 + (decN n).length ≤ 1073741824 := by unfold decN; omega
    generalize reasT r = rt at *
    generalize decN n = dn at *
    generalize reasD = rd at *
    simp only [i64D, strV] at h50
    refine (rf_fin _ _ _ _ _ _ _ _ _ (by rfl)).trans ?_
    simp only [enC, ob?, strV, wRej, binStr, h50, h77, hra, hrf, an, g1, g2, g3, g4, List.length_append, List.take, List.drop, List.map_cons, List.map_nil, freeze_nil, List.flatMap_nil, Bool.not_false, ↓sp_ixa, evs, Nat.reduceAdd, Nat.reduceSub]
  rw [if_neg (by simp)]
  have hst := setT_take l (fun o ho => (chkO_n (k4 o ho)).2)
  have hit : iter (some [1, 3, 4]) 1 (exec (zenv X N) N false fn49L0) N ⟨[.any, .c (.ptr 0 0 0), .any, strV (s ++ wAcc ++ setT (l.take 0)), i64 ((0 : Nat) : Int), .any, .any, .any, .any], [.cells (enC s true r t w) 0 false]⟩ = some (.exit 0, ⟨[.any, .c (.ptr 0 0 0), .any, strV (s ++ wAcc ++ setT (l.take l.length)), i64 (l.length : Int), .any, .any, bl false, .any], [.cells (enC s true r t w) 0 false]⟩) := by
    refine iter_to (fun j => ⟨[.any, .c (.ptr 0 0 0), .any, strV (s ++ wAcc ++ setT (l.take j)), i64 (j : Int), .any, .any, .any, .any], [.cells (enC s true r t w) 0 false]⟩) (e := .exit 0) (fun h => by cases h) l.length 0 N (fun j _ hj => ?_) ?_ (by omega)
    · have hj1 : j < l.length := by omega
      have ho := hl.at hj1
      have h1 := hw.at hl hj1
      have h2 := flatO_at hl hj1
      have h4 : (j : Int) < (l.length : Int) := by omega
      have h6 := wrap_succ (k := j) (by omega)
      have hon := chkO_n (k4 _ (getD_mem hj1))
      have h58 := hx.vc (k := 58) (F := fn58) rfl (f58 hx (N := N) (by omega) ho hon.2)
      have hto := textO_len _ hon.2
      have hlo := oC_len ho
      have hsl := hst j
      have hsu := setT_succ l hj1
      rw [hsu]
      have hlen : (s ++ wAcc ++ setT (l.take j)).length ≤ 200000 := by
        simp only [wAcc, List.length_append, List.length_cons, List.length_nil]; omega
      have hm : ∀ H : Heap, mapO (deepC H deepMax) (oC (l.getD j o0)) = some (oD (l.getD j o0)) := fun H => mapO_d H _ _
      have hd : List.map C.d (oD (l.getD j o0)) = oC (l.getD j o0) := rfl
      rw [show s ++ wAcc ++ (setT (l.take j) ++ (if j = 0 then [] else [44]) ++ textO (l.getD j o0)) = s ++ wAcc ++ setT (l.take j) ++ (if j = 0 then [] else [44]) ++ textO (l.getD j o0) by simp only [List.append_assoc]]
      generalize s ++ wAcc ++ setT (l.take j) = T at *
      generalize l.getD j o0 = o at *
      simp only [strV] at h58
      simp only [enC]
      by_cases hz : j = 0
      · have g1 : ¬ (j : Int) > 0 := by omega
        have g2 : T.length + (textO o).length ≤ 1073741824 := by omega
        rw [if_pos hz, List.append_nil]
        refine ⟨⟨[.any, .c (.ptr 0 0 0), .any, strV (T ++ textO o), i64 ((j + 1 : Nat) : Int), .any, .any, bl true, bl false], [.cells (enC s true r t w) 0 false]⟩, ?_, gc_le (Nat.le_refl 1)⟩
        simp only [fn49L0, enC, ob?, strV, binStr, hln, h1, h2, h4, h6, h58, hm, hd, hlo, g1, g2, List.take, List.drop, ↓sp_len, ↓sp_ixa, evs]
      · have g1 : (j : Int) > 0 := by omega
        have g3 : T.length + 1 + (textO o).length ≤ 1073741824 := by omega
        have g4 : T.length ≤ 1073741823 := by omega
        rw [if_neg hz]
        refine ⟨⟨[.any, .c (.ptr 0 0 0), .any, strV (T ++ [44] ++ textO o), i64 ((j + 1 : Nat) : Int), .any, .any, bl true, bl true], [.cells (enC s true r t w) 0 false]⟩, ?_, gc_le (Nat.le_refl 1)⟩
        simp only [fn49L0, enC, ob?, strV, binStr, hln, h1, h2, h4, h6, h58, hm, hd, hlo, g1, g3, g4, List.length_append, List.take, List.drop, ↓sp_len, ↓sp_ixa, evs, Nat.reduceLeDiff]
    · rw [Nat.zero_add]
      simp only [fn49L0, enC, ob?, hln, List.take, List.drop, ↓sp_len, evs]
  rw [List.take_length] at hit
  have hs0 : s ++ wAcc ++ setT (l.take 0) = s ++ wAcc := by rw [List.take_zero]; simp [setT, joinN]
  rw [hs0] at hit
  have g1 : s.length + 10 ≤ 1073741824 := by omega
  by_cases c1 : l.length = 0
  · rw [if_pos c1]
    have g0 : ((l.length : Int) == 0) = true := by rw [beq_iff_eq]; omega
    have g2 : s.length + 10 + 1 ≤ 1073741824 := by omega
    refine (rf_fin _ _ _ _ _ _ _ _ _ (by rfl)).trans ?_
    simp only [enC, ob?, strV, wAcc, binStr, hln, g0, g1, g2, List.length_append, List.take, List.drop, Bool.not_true, ↓sp_len, evs, Nat.reduceAdd, Nat.reduceSub]
  · rw [if_neg c1]
    have g0 : ((l.length : Int) == 0) = false := by rw [beq_eq_false_iff_ne]; omega
    simp only [strV, i64, bl, wAcc, enC, Int.natCast_zero] at hit
    refine (rf_fin _ _ _ _ _ _ _ _ _ (by rfl)).trans ?_
    simp only [enC, ob?, strV, wAcc, binStr, hln, g0, g1, hit, List.take, List.drop, Bool.not_true, ↓sp_len, evs, Nat.reduceAdd, Nat.reduceBEq, Nat.reduceSub]
end Mini
end Go.Proofs.YtgjlofpfbhioaaaGreatDoor
namespace Go.Proofs.YtgjlofpfbhioaaaGreatDoor
namespace Mini
open Go
variable {m : Int} {X : Ctx}
def En.ds (e : En) : List D := [.str e.s, .bool e.acc, .int .u8 (e.r : Int), .int .i64 e.t, e.w]
def En.body (e : En) : List Nat := bodyE e.s e.acc e.r e.t e.l
def En.chk (e : En) : Nat := chkE e.s e.acc e.r e.t e.l
def e0 : En := ⟨[], false, 0, 0, .nils, []⟩
def wfE (e : En) : Prop := isSet e.w e.l ∧ wfS e.l
def wfEs (l : List En) : Prop := ∀ e ∈ l, wfE e
theorem reasT_byte (r : Nat) : ∀ c ∈ reasT r, c < 256 := by
  unfold reasT
  split
  · decide
  split
  · decide
  split
  · decide
  · decide
theorem body_ok {e : En} (h : e.chk = 0) : (∀ c ∈ e.body, c < 256) ∧ e.body.length ≤ 91000 := by
  obtain ⟨p1, p2, p3⟩ := chkE_parts h
  have k1 := nameB_ok p1
  have k3 := chkS_len p3
  have k4 := setT_len e.l (fun o ho => (chkO_n (chkS_ok p3 o ho)).2)
  have hn : ∀ c ∈ e.s, c < 256 := fun c hc => okB_byte (k1.2.2 c hc)
  have hrl := reasT_len e.r
  have hdl := (decF_len 20 e.t.toNat).1
  have hdb := decF_byte 20 e.t.toNat
  have hr : ∀ c ∈ wRej, c < 256 := by decide
  have ha : ∀ c ∈ wAcc, c < 256 := by decide
  have hst := setT_byte e.l
  have hre := reasT_byte e.r
  have l1 : wRej.length = 10 := rfl
  have l2 : wAcc.length = 10 := rfl
  unfold En.body bodyE
  by_cases c1 : e.acc = false
  · rw [if_pos c1]
    refine ⟨fun c hc => ?_, by simp only [List.length_append, List.length_cons, List.length_nil, decN]; omega⟩
    simp only [List.mem_append, List.mem_cons, List.not_mem_nil, or_false] at hc
    rcases hc with (((hc | hc) | hc) | rfl) | hc
    · exact hn c hc
    · exact hr c hc
    · exact hre c hc
    · omega
    · exact hdb c hc
  · rw [if_neg c1]
    by_cases c2 : e.l.length = 0
    · rw [if_pos c2]
      refine ⟨fun c hc => ?_, by simp only [List.length_append, List.length_cons, List.length_nil]; omega⟩
      simp only [List.mem_append, List.mem_cons, List.not_mem_nil, or_false] at hc
      rcases hc with (hc | hc) | rfl
      · exact hn c hc
      · exact ha c hc
      · omega
    · rw [if_neg c2]
      refine ⟨fun c hc => ?_, by simp only [List.length_append]; omega⟩
      simp only [List.mem_append] at hc
      rcases hc with (hc | hc) | hc
      · exact hn c hc
      · exact ha c hc
      · exact hst c hc
def lineE (a : Nat) (e : En) : List Nat := e.body ++ [32] ++ decN (sumN a e.body) ++ [10]
def lastJ (a : Nat) (l : List En) : Nat := l.foldl (fun a e => sumN a e.body) a
def textJ (a : Nat) : List En → List Nat
  | [] => []
  | e :: l => lineE a e ++ textJ (sumN a e.body) l
theorem lastJ_snoc (a : Nat) (l : List En) (e : En) : lastJ a (l ++ [e]) = sumN (lastJ a l) e.body := by simp [lastJ]
theorem textJ_snoc (e : En) : ∀ (l : List En) (a : Nat), textJ a (l ++ [e]) = textJ a l ++ lineE (lastJ a l) e
  | [], a => by simp [textJ, lastJ]
  | x :: l, a => by
    rw [List.cons_append, textJ, textJ, textJ_snoc e l, List.append_assoc]
    rfl
theorem lastJ_lt : ∀ (l : List En) {a : Nat}, a < 65521 → lastJ a l < 65521
  | [], _, h => h
  | e :: l, a, h => lastJ_lt l (a := sumN a e.body) (sumN_lt _ h)
end Mini
end Go.Proofs.YtgjlofpfbhioaaaGreatDoor
namespace Go.Proofs.YtgjlofpfbhioaaaGreatDoor
namespace Mini
open Go
variable {m : Int} {X : Ctx}
def zE : List C := [.d (.str []), .d (.bool false), .d (.int .u8 0), .d (.int .i64 0), .d .nils]
theorem rg_ap (ts : List V) (H : Heap) (E : Env) (regs : List V) (exp : List (Nat × Nat)) (a b : A) (aps : List (A × A)) : regc (some (ts, H)) E regs exp ((a, b) :: aps) = if apart (look E regs ts a) (look E regs ts b) = true then regc (some (ts, H)) E regs exp aps else none := by
  by_cases h : apart (look E regs ts a) (look E regs ts b) = true
  · simp only [regc, List.all_cons, h, Bool.true_and, if_true]
  · simp only [regc, List.all_cons, h, Bool.false_and]
    rfl
end Mini
end Go.Proofs.YtgjlofpfbhioaaaGreatDoor
namespace Go.Proofs.YtgjlofpfbhioaaaGreatDoor
namespace Mini
open Go
variable {m : Int} {X : Ctx}
def eC (l : List En) : List C := (l.flatMap En.ds).map .d
theorem eC_len (l : List En) : (eC l).length = l.length * 5 := by
  rw [eC, List.length_map, flD_len (k := 5) (fun _ _ => rfl)]
theorem eC_snoc (l : List En) (e : En) : eC (l ++ [e]) = eC l ++ e.ds.map .d := by simp [eC]
end Mini
end Go.Proofs.YtgjlofpfbhioaaaGreatDoor
namespace Go.Proofs.YtgjlofpfbhioaaaGreatDoor
namespace Mini
open Go
variable {m : Int} {X : Ctx}
def fn99A : I := .reg false [⟨none, .mov (.r 17)⟩] [(8, 0)] []
def fn99B : I := .block 2 ( .seq (.reg false [⟨none, .mov (.r 8)⟩, ⟨none, .vc 94 [(.l 0)]⟩, ⟨none, .mov (.l 0)⟩, ⟨none, .ext (.l 0) 0⟩, ⟨none, .ext (.l 1) 1⟩, ⟨none, .pre⟩, ⟨none, .ini 17 (.l 2)⟩, ⟨none, .mov (.l 2)⟩] [(9, 1), (10, 0)] []) ( .seq (.seq (.reg false [⟨none, .mov (.r 10)⟩, ⟨none, .bin .neq (.l 0) (.v (.c (.d (.int .i64 0))))⟩] [(18, 0)] []) ( .cond (.r 18) ( .seq (.reg false [⟨none, .bld [.str [], .bool false, .int .u8 0, .int .i64 0, .nils] []⟩, ⟨none, .st 5 (.r 1) (.l 0)⟩, ⟨none, .st 1 (.r 2) (.v (.c (.d (.int .i64 0))))⟩, ⟨none, .st 1 (.r 3) (.v (.c (.d (.bool false))))⟩] [] []) ( .ret)) ( .skip))) ( .reg false [⟨none, .fa 4 (.r 6)⟩, ⟨none, .ld false 1 (.l 0)⟩, ⟨none, .ld true 17 (.r 9)⟩, ⟨none, .bsl 1 17 [.int .u8 0, .int .u32 0, .int .u32 0, .int .u32 0, .int .u32 0, .int .u32 0, .int .u32 0, .int .u32 0, .int .u32 0, .int .u32 0, .int .u32 0, .int .u32 0, .int .u32 0, .int .u32 0, .int .u32 0, .int .u32 0, .int .u32 0] [(0, 17, (.l 0))]⟩, ⟨none, .app 17 (.l 2) (.l 0)⟩, ⟨none, .fa 4 (.r 6)⟩, ⟨none, .st 1 (.l 0) (.l 1)⟩] [] [])))
def fn99'' : Fn := ⟨1, 23, [0, 2, 3, 4, 5, 6, 7, 8, 9, 10, 11, 12, 18, 35, 39, 49, 53, 54, 61, 69, 79, 87, 102], [.cell 1 5 true, .cell 2 1 false, .cell 3 1 false], .seq (.reg false [⟨none, .new [.str [], .bool false, .int .u8 0, .int .i64 0, .nils]⟩, ⟨none, .new [.int .i64 0]⟩, ⟨none, .new [.bool false]⟩] [(1, 2), (2, 1), (3, 0)] []) ( .seq (.reg false [⟨none, .mov (.r 0)⟩, ⟨none, .pc 92 [(.l 0), (.v (.c (.d (.str [32]))))]⟩, ⟨none, .mov (.l 0)⟩] [(4, 0)] []) ( .seq (.reg false [⟨none, .mov (.r 4)⟩, ⟨none, .len (.l 0)⟩, ⟨none, .mov (.l 0)⟩] [(5, 0)] []) ( .seq (.seq (.reg false [⟨none, .mov (.r 5)⟩, ⟨none, .bin .lss (.l 0) (.v (.c (.d (.int .i64 4))))⟩] [(12, 0)] []) ( .cond (.r 12) ( .seq (.reg false [⟨none, .bld [.str [], .bool false, .int .u8 0, .int .i64 0, .nils] []⟩, ⟨none, .st 5 (.r 1) (.l 0)⟩, ⟨none, .st 1 (.r 2) (.v (.c (.d (.int .i64 0))))⟩, ⟨none, .st 1 (.r 3) (.v (.c (.d (.bool false))))⟩] [] []) ( .ret)) ( .skip))) ( .seq (.reg true [⟨none, .mov (.r 4)⟩, ⟨none, .ixa 1 (.l 0) (.v (.c (.d (.int .i64 0))))⟩, ⟨none, .ld false 1 (.l 0)⟩, ⟨none, .mov (.r 4)⟩, ⟨none, .ixa 1 (.l 0) (.v (.c (.d (.int .i64 1))))⟩, ⟨none, .ld false 1 (.l 0)⟩, ⟨none, .bin .eql (.l 0) (.v (.c (.d (.str [97, 99, 99, 101, 112, 116, 101, 100]))))⟩, ⟨none, .bld [.str [], .bool false, .int .u8 0, .int .i64 0, .nils] [(0, 1, (.l 4)), (1, 1, (.l 0))]⟩, ⟨none, .pre⟩, ⟨none, .ini 5 (.l 1)⟩] [(6, 0)] []) ( .seq (.reg false [⟨none, .mov (.r 4)⟩, ⟨none, .mov (.r 5)⟩, ⟨none, .bin .sub (.l 0) (.v (.c (.d (.int .i64 1))))⟩, ⟨none, .ixa 1 (.l 2) (.l 0)⟩, ⟨none, .ld false 1 (.l 0)⟩, ⟨none, .pc 122 [(.l 0), (.v (.c (.d (.int .i64 5))))]⟩, ⟨none, .mov (.l 0)⟩] [(7, 0)] []) ( .seq (.block 0 ( .seq (.reg false [⟨none, .mov (.r 7)⟩, ⟨none, .bin .lss (.l 0) (.v (.c (.d (.int .i64 0))))⟩, ⟨none, .mov (.l 0)⟩] [(13, 0)] []) ( .cond (.r 13) ( .seq (.reg false [⟨none, .bld [.str [], .bool false, .int .u8 0, .int .i64 0, .nils] []⟩, ⟨none, .st 5 (.r 1) (.l 0)⟩, ⟨none, .st 1 (.r 2) (.v (.c (.d (.int .i64 0))))⟩, ⟨none, .st 1 (.r 3) (.v (.c (.d (.bool false))))⟩] [] []) ( .ret)) ( .seq (.reg false [⟨none, .fa 1 (.r 6)⟩, ⟨none, .ld false 1 (.l 0)⟩, ⟨none, .mov (.l 0)⟩, ⟨some (0, true), .mov (.r 5)⟩, ⟨some (1, true), .bin .eql (.l 0) (.v (.c (.d (.int .i64 4))))⟩, ⟨none, .pick (.l 2) (.l 0) (.v (.c (.d (.bool false))))⟩, ⟨none, .mov (.l 0)⟩] [(14, 0)] []) ( .cond (.r 14) ( .seq (.seq (.reg false [⟨none, .mov (.r 4)⟩, ⟨none, .ixa 1 (.l 0) (.v (.c (.d (.int .i64 2))))⟩, ⟨none, .ld false 1 (.l 0)⟩, ⟨none, .bin .eql (.l 0) (.v (.c (.d (.str [45]))))⟩] [(15, 0)] []) ( .cond (.r 15) ( .exit 0) ( .skip))) ( .seq (.reg false [⟨none, .mov (.r 4)⟩, ⟨none, .ixa 1 (.l 0) (.v (.c (.d (.int .i64 2))))⟩, ⟨none, .ld false 1 (.l 0)⟩, ⟨none, .hc (.v (.c (.d (.fn 93 [] [])))) [(.l 0), (.v (.c (.d (.str [44]))))]⟩] [(16, 0)] []) ( .block 1 ( .seq (.fresh 6 (some 4) 17) ( .rf (.r 16) [17] fn99A fn99B))))) ( .seq (.reg false [⟨none, .mov (.r 4)⟩, ⟨none, .ixa 1 (.l 0) (.v (.c (.d (.int .i64 1))))⟩, ⟨none, .ld false 1 (.l 0)⟩, ⟨none, .bin .eql (.l 0) (.v (.c (.d (.str [114, 101, 106, 101, 99, 116, 101, 100]))))⟩, ⟨none, .mov (.l 0)⟩, ⟨some (0, true), .mov (.r 5)⟩, ⟨some (1, true), .bin .eql (.l 0) (.v (.c (.d (.int .i64 5))))⟩, ⟨none, .pick (.l 2) (.l 0) (.v (.c (.d (.bool false))))⟩, ⟨none, .mov (.l 0)⟩] [(19, 0)] []) ( .cond (.r 19) ( .seq (.seq (.reg false [⟨none, .mov (.v (.c (.d (.int .u8 1))))⟩] [(11, 0)] []) ( .block 3 ( .loop (some [1, 2, 3, 4, 6, 7, 11]) fn99L0))) ( .seq (.reg false [⟨none, .mov (.r 4)⟩, ⟨none, .ixa 1 (.l 0) (.v (.c (.d (.int .i64 3))))⟩, ⟨none, .ld false 1 (.l 0)⟩, ⟨none, .pc 122 [(.l 0), (.v (.c (.d (.int .i64 3))))]⟩, ⟨none, .fa 3 (.r 6)⟩, ⟨none, .st 1 (.l 0) (.l 1)⟩] [] []) ( .seq (.reg false [⟨none, .fa 2 (.r 6)⟩, ⟨none, .ld false 1 (.l 0)⟩, ⟨none, .bin .eql (.l 0) (.v (.c (.d (.int .u8 0))))⟩, ⟨none, .mov (.l 0)⟩, ⟨some (0, false), .fa 3 (.r 6)⟩, ⟨some (1, false), .ld false 1 (.l 0)⟩, ⟨some (2, false), .bin .lss (.l 0) (.v (.c (.d (.int .i64 0))))⟩, ⟨none, .pick (.l 3) (.v (.c (.d (.bool true)))) (.l 0)⟩] [(22, 0)] []) ( .cond (.r 22) ( .seq (.reg false [⟨none, .bld [.str [], .bool false, .int .u8 0, .int .i64 0, .nils] []⟩, ⟨none, .st 5 (.r 1) (.l 0)⟩, ⟨none, .st 1 (.r 2) (.v (.c (.d (.int .i64 0))))⟩, ⟨none, .st 1 (.r 3) (.v (.c (.d (.bool false))))⟩] [] []) ( .ret)) ( .skip))))) ( .seq (.reg false [⟨none, .bld [.str [], .bool false, .int .u8 0, .int .i64 0, .nils] []⟩, ⟨none, .st 5 (.r 1) (.l 0)⟩, ⟨none, .st 1 (.r 2) (.v (.c (.d (.int .i64 0))))⟩, ⟨none, .st 1 (.r 3) (.v (.c (.d (.bool false))))⟩] [] []) ( .ret))))))))) ( .seq (.reg false [⟨none, .ld true 5 (.r 6)⟩, ⟨none, .mov (.r 7)⟩, ⟨none, .st 5 (.r 1) (.l 1)⟩, ⟨none, .st 1 (.r 2) (.l 1)⟩, ⟨none, .st 1 (.r 3) (.v (.c (.d (.bool true))))⟩] [] []) ( .ret))))))))⟩
def enK (name : List Nat) (c : C) : List C := [.d (.str name), .d (.bool true), .d (.int .u8 0), .d (.int .i64 0), c]
abbrev fnSj : C := .fn 148 [] [.ptr 5 0 0, .ptr 4 0 0, .ptr 6 0 0]
abbrev regs99 (s : List Nat) (q : List (List Nat)) (st : Int) : List V := [strV s, .c (.ptr 0 0 0), .c (.ptr 1 0 0), .c (.ptr 2 0 0), .c (.d (slS q)), i64 4, .c (.ptr 3 0 0), i64 st, .any, .any, .any, .any, bl false, bl false, bl true, bl false, .c fnSj, .any, .any, .any, .any, .any, .any]
def hp99 (s : List Nat) (q : List (List Nat)) (st : Int) (name : List Nat) (ps : List (List Nat)) (r : List Nat) (j : Nat) (t : Bool) : Heap := [.cells zE 0 false, .cells [.d (.int .i64 0)] 0 false, .cells [.d (.bool false)] 0 false, .cells (enK name (.os 7 j 0 j 17 none)) 0 false, .cells [.d (.str r)] 0 false, .cells [.d (.str [44])] 0 false, .cells [.d (.int .i64 0)] 0 false, .cells (flC (osP ps j)) j false, .loop t none (regs99 s q st) [17] fn99A fn99B]
theorem yl99 (hX : XOj m X) {N : Nat} {s : List Nat} {q : List (List Nat)} {st : Int} {name r : List Nat} {ps : List (List Nat)} {j : Nat} (hN : (ps.getD j []).length + 70 ≤ N) (hj : j < ps.length) (hl : (ps.getD j []).length < 1000000) (hj2 : j + 1 < 900000) (hp : (parseO (ps.getD j [])).2 = 0) :
    ∃ t, callN X N (.yld 8) [strV (ps.getD j [])] (hp99 s q st name ps r j true) = some (bl true, hp99 s q st name ps r (j + 1) true ++ t) := by
  obtain ⟨N, rfl⟩ : ∃ M, N = M + 1 := ⟨N - 1, by omega⟩
  have h94 := hX.x.vc (k := 94) (F := fn94) rfl (f94 hX.x (N := N) (s := ps.getD j []) (by omega) (by omega))
  have hwf := parseO_wf (ps.getD j [])
  have hos := osP_succ ps hj
  have hlo := osP_len ps (j := j) (by omega)
  have hfl := flC_len (osP_wf ps j)
  rw [hlo] at hfl
  rw [hp] at h94
  unfold hp99
  rw [hos]
  generalize (parseO (ps.getD j [])).1 = o at *
  generalize osP ps j = l at *
  generalize ps.getD j [] = x at *
  have h6 := oC_len hwf
  have hd : ∀ o : Oid, List.map C.d (oD o) = oC o := fun _ => rfl
  have hap : flC (l ++ [o]) = flC l ++ oC o := by rw [flC_app, flC_one]
  have htk : (flC l).take (j * 17) = flC l := List.take_of_length_le (by omega)
  have hl1 := lay1 hwf
  have k1 : j + 1 ≤ 1073741824 := by omega
  have k2 : j + 1 < genK := by show j + 1 < 1000000; omega
  have hfo := oC_flat o
  rw [hap]
  simp only [strV, i64, Int.natCast_zero] at h94
  refine ⟨[.cells (oC o) 0 false, .cells (oC o) 0 false], ?_⟩
  refine (callN_yld (X := X) (n := N) (id := 8) (p := 17) (regs := regs99 s q st) (regs1 := regs99 s q st) (regs2 := regs99 s q st) (ps1 := [17]) (ps2 := [17]) (asg := fn99A) (body := fn99B) (asg1 := fn99A) (body1 := fn99B) (asg2 := fn99A) (body2 := fn99B) (s1 := ⟨[strV s, .c (.ptr 0 0 0), .c (.ptr 1 0 0), .c (.ptr 2 0 0), .c (.d (slS q)), i64 4, .c (.ptr 3 0 0), i64 st, strV x, .any, .any, .any, bl false, bl false, bl true, bl false, .c fnSj, strV x, .any, .any, .any, .any, .any], [.cells zE 0 false, .cells [.d (.int .i64 0)] 0 false, .cells [.d (.bool false)] 0 false, .cells (enK name (.os 7 j 0 j 17 none)) 0 false, .cells [.d (.str r)] 0 false, .cells [.d (.str [44])] 0 false, .cells [.d (.int .i64 0)] 0 false, .cells (flC l) j false, .loop true none (regs99 s q st) [17] fn99A fn99B]⟩)
    (s2 := ⟨[strV s, .c (.ptr 0 0 0), .c (.ptr 1 0 0), .c (.ptr 2 0 0), .c (.d (slS q)), i64 4, .c (.ptr 3 0 0), i64 st, strV x, .c (.ptr 9 0 0), i64 0, .any, bl false, bl false, bl true, bl false, .c fnSj, strV x, bl false, .any, .any, .any, .any], [.cells zE 0 false, .cells [.d (.int .i64 0)] 0 false, .cells [.d (.bool false)] 0 false, .cells (enK name (.os 7 (j + 1) 0 (j + 1) 17 none)) 0 false, .cells [.d (.str r)] 0 false, .cells [.d (.str [44])] 0 false, .cells [.d (.int .i64 0)] 0 false, .cells (flC l ++ oC o) (j + 1) false, .loop false none (regs99 s q st) [17] fn99A fn99B, .cells (oC o) 0 false, .cells (oC o) 0 false]⟩) (e := .nrm) rfl ?_ rfl ?_ rfl).trans rfl
  · simp only [fn99A, evs]
  · simp only [fn99B, zE, ob?, strV, enK, elems, splice, h94, h6, hfl, htk, hl1, k1, k2, List.take, List.drop, List.take_of_length_le (Nat.le_of_eq h6), List.set_cons_zero, List.set_cons_succ, List.map_cons, List.map_nil, freeze_nil, reachV, reachC, ite_self, List.flatMap_cons, List.flatMap_nil, Nat.le_refl, Nat.one_ne_zero, evs, Nat.reduceAdd]
theorem yl99b (hX : XOj m X) {N : Nat} {s : List Nat} {q : List (List Nat)} {st : Int} {name r : List Nat} {ps : List (List Nat)} {j : Nat} (hN : (ps.getD j []).length + 70 ≤ N) (hl : (ps.getD j []).length < 1000000) (hp : (parseO (ps.getD j [])).2 ≠ 0) :
    ∃ t, callN X N (.yld 8) [strV (ps.getD j [])] (hp99 s q st name ps r j true) = some (bl false, (hp99 s q st name ps r j true).set 8 (.loop false (some .ret) (regs99 s q st) [17] fn99A fn99B) ++ t) := by
  obtain ⟨N, rfl⟩ : ∃ M, N = M + 1 := ⟨N - 1, by omega⟩
  have h94 := hX.x.vc (k := 94) (F := fn94) rfl (f94 hX.x (N := N) (s := ps.getD j []) (by omega) (by omega))
  have hwf := parseO_wf (ps.getD j [])
  unfold hp99
  have g1 : ((((parseO (ps.getD j [])).2 : Nat) : Int) != 0) = true := by rw [bne_iff_ne]; omega
  generalize (parseO (ps.getD j [])).1 = o at *
  generalize (parseO (ps.getD j [])).2 = e at *
  generalize osP ps j = l at *
  generalize ps.getD j [] = x at *
  have h6 := oC_len hwf
  simp only [strV, i64] at h94
  have hfo := oC_flat o
  refine ⟨[.cells (oC o) 0 false], ?_⟩
  refine (callN_yld (X := X) (n := N) (id := 8) (p := 17) (regs := regs99 s q st) (regs1 := regs99 s q st) (regs2 := regs99 s q st) (ps1 := [17]) (ps2 := [17]) (asg := fn99A) (body := fn99B) (asg1 := fn99A) (body1 := fn99B) (asg2 := fn99A) (body2 := fn99B) (s1 := ⟨[strV s, .c (.ptr 0 0 0), .c (.ptr 1 0 0), .c (.ptr 2 0 0), .c (.d (slS q)), i64 4, .c (.ptr 3 0 0), i64 st, strV x, .any, .any, .any, bl false, bl false, bl true, bl false, .c fnSj, strV x, .any, .any, .any, .any, .any], [.cells zE 0 false, .cells [.d (.int .i64 0)] 0 false, .cells [.d (.bool false)] 0 false, .cells (enK name (.os 7 j 0 j 17 none)) 0 false, .cells [.d (.str r)] 0 false, .cells [.d (.str [44])] 0 false, .cells [.d (.int .i64 0)] 0 false, .cells (flC l) j false, .loop true none (regs99 s q st) [17] fn99A fn99B]⟩)
    (s2 := ⟨[strV s, .c (.ptr 0 0 0), .c (.ptr 1 0 0), .c (.ptr 2 0 0), .c (.d (slS q)), i64 4, .c (.ptr 3 0 0), i64 st, strV x, .c (.ptr 9 0 0), i64 (e : Int), .any, bl false, bl false, bl true, bl false, .c fnSj, strV x, bl true, .any, .any, .any, .any], [.cells zE 0 false, .cells [.d (.int .i64 0)] 0 false, .cells [.d (.bool false)] 0 false, .cells (enK name (.os 7 j 0 j 17 none)) 0 false, .cells [.d (.str r)] 0 false, .cells [.d (.str [44])] 0 false, .cells [.d (.int .i64 0)] 0 false, .cells (flC l) j false, .loop false none (regs99 s q st) [17] fn99A fn99B, .cells (oC o) 0 false]⟩) (e := .ret) rfl ?_ rfl ?_ rfl).trans rfl
  · simp only [fn99A, evs]
  · simp only [fn99B, zE, ob?, strV, lay, splice, h94, h6, g1, List.take, List.drop, List.set_cons_zero, List.set_cons_succ, List.map_cons, List.map_nil, freeze_nil, reachV, reachC, ite_self, List.flatMap_cons, List.flatMap_nil, evs, Nat.reduceAdd, Nat.reduceLeDiff]
abbrev R148j : List V := [.c (.yld 8), .c (.ptr 5 0 0), .c (.ptr 4 0 0), .c (.ptr 6 0 0), .any, .any, .any, .any, .any, .any, .any, .any]
theorem r148j (hX : XOj m X) {N : Nat} {s t : List Nat} {q : List (List Nat)} {st : Int} {name : List Nat} {j : Nat} (hN : t.length + 70 ≤ N) (ht : t.length < 800000) (hj : j + 1 < (splitN 44 t).length) (hp : (parseO ((splitN 44 t).getD j [])).2 = 0) :
    ∃ s', exec (zenv X N) N false fn148L0 ⟨R148j, hp99 s q st name (splitN 44 t) (restN 44 t j) j true⟩ = some (.nrm, s') ∧ tidy 9 (some [0, 1, 2, 3]) s' = ⟨R148j, hp99 s q st name (splitN 44 t) (restN 44 t (j + 1)) (j + 1) true⟩ := by
  obtain ⟨i, h1, h2, h3, h4⟩ := restN_round 44 t j hj
  obtain ⟨hl1, hl2⟩ := splitN_len 44 t
  have hx : ((splitN 44 t).getD j []).length ≤ t.length := hl2 _ (by
    rw [List.getD_eq_getElem?_getD, List.getElem?_eq_getElem (by omega)]
    exact List.getElem_mem _)
  obtain ⟨u, hy⟩ := yl99 hX (N := N) (s := s) (q := q) (st := st) (name := name) (r := restN 44 t j) (ps := splitN 44 t) (j := j) (by omega) (by omega) (by omega) (by omega) hp
  have hrl := restN_len 44 t j
  have hpc := p147 hX.x (N := N) (s := restN 44 t j) (c := 44)
  rw [h1] at hpc
  have w1 : IntKind.i64.wrap ((i : Int) + 0) = (i : Int) := by rw [Int.add_zero]; exact wrap_nat (by omega)
  have w2 := wrap_succ (k := i) (by omega)
  rw [← h4]
  have htk : (restN 44 t j).take (restN 44 t j).length = restN 44 t j := List.take_length
  have k1 : i ≤ (restN 44 t j).length := by omega
  have k2 : i + 1 ≤ (restN 44 t j).length := by omega
  have k3 : ¬ (i : Int) < 0 := by omega
  have hos : oInt (some i) = (i : Int) := rfl
  have hosu : (flC (osP (splitN 44 t) (j + 1))).all C.isD = true := flC_d _
  unfold hp99 zE at hy ⊢
  rw [← h3] at hy
  generalize restN 44 t j = r at *
  generalize osP (splitN 44 t) j = l at *
  generalize osP (splitN 44 t) (j + 1) = l' at *
  refine ⟨⟨[.c (.yld 8), .c (.ptr 5 0 0), .c (.ptr 4 0 0), .c (.ptr 6 0 0), .any, i64 (i : Int), strV (r.take i), .any, .any, .any, bl false, bl false], [.cells zE 0 false, .cells [.d (.int .i64 0)] 0 false, .cells [.d (.bool false)] 0 false, .cells (enK name (.os 7 (j + 1) 0 (j + 1) 17 none)) 0 false, .cells [.d (.str (r.drop (i + 1)))] 0 false, .cells [.d (.str [44])] 0 false, .cells [.d (.int .i64 0)] 0 false, .cells (flC l') (j + 1) false, .loop true none (regs99 s q st) [17] fn99A fn99B] ++ u⟩, ?_, ?_⟩
  · simp only [strV, bl] at hy
    simp only [fn148L0, R148j, zE, ob?, strV, optNat, splice, hpc, hos, hy, w1, w2, htk, k1, k2, k3, Int.natCast_one, Option.map_none, Bool.not_true, Nat.zero_le, Nat.le_refl, List.take, List.drop, List.set_cons_zero, List.set_cons_succ, List.map_cons, List.map_nil, freeze_nil, reachV, reachC, ite_self, List.flatMap_cons, List.flatMap_nil, evs]
  · refine gc_yes rfl ?_
    simp only [enK, zE, List.cons_append, List.nil_append, List.take_succ_cons, List.take_zero, List.all_cons, List.all_nil, Ob.under, undersC_d 9 _ hosu, Bool.and_true, Bool.and_self]
    rfl
end Mini
end Go.Proofs.YtgjlofpfbhioaaaGreatDoor
namespace Go.Proofs.YtgjlofpfbhioaaaGreatDoor
namespace Mini
open Go
variable {m : Int} {X : Ctx}
theorem c148j (hX : XOj m X) {N : Nat} {s t : List Nat} {q : List (List Nat)} {st : Int} {name : List Nat} (hN : t.length + 80 ≤ N) (ht : t.length < 800000) :
    ((∀ j, j < (splitN 44 t).length → (parseO ((splitN 44 t).getD j [])).2 = 0) ∧ ∃ u, callN X N fnSj [.c (.yld 8)] (hp99 s q st name (splitN 44 t) t 0 true) = some (.tup [], hp99 s q st name (splitN 44 t) (restN 44 t ((splitN 44 t).length - 1)) (splitN 44 t).length true ++ u)) ∨
    ((∃ j, j < (splitN 44 t).length ∧ (parseO ((splitN 44 t).getD j [])).2 ≠ 0) ∧ ∃ r j u, callN X N fnSj [.c (.yld 8)] (hp99 s q st name (splitN 44 t) t 0 true) = some (.tup [], (hp99 s q st name (splitN 44 t) r j true).set 8 (.loop false (some .ret) (regs99 s q st) [17] fn99A fn99B) ++ u)) := by
  obtain ⟨N, rfl⟩ : ∃ M, N = M + 1 := ⟨N - 1, by omega⟩
  have hn := seqLen 44 t
  obtain ⟨hl1, hl2⟩ := splitN_len 44 t
  have hx : ∀ j, j < (splitN 44 t).length → ((splitN 44 t).getD j []).length ≤ t.length := fun j hj => hl2 _ (by
    rw [List.getD_eq_getElem?_getD, List.getElem?_eq_getElem hj]
    exact List.getElem_mem _)
  have hF : fnsX 148 = some fn148' := rfl
  have hcall : ∀ H, callN X (N + 1) fnSj [.c (.yld 8)] H = runFn (zenv X N) N fn148' [.c (.yld 8), .c (.ptr 5 0 0), .c (.ptr 4 0 0), .c (.ptr 6 0 0)] H := fun H => callN_fnc (CtxLe.fns (X := XJ m) hX hF)
  rw [hcall]
  have hr0 : restN 44 t 0 = t := rfl
  have hsep : ∀ r j b, (hp99 s q st name (splitN 44 t) r j b)[5]? = some (.cells [.d (.str [44])] 0 false) := fun _ _ _ => rfl
  have hstr : ∀ r j b, (hp99 s q st name (splitN 44 t) r j b)[4]? = some (.cells [.d (.str r)] 0 false) := fun _ _ _ => rfl
  have hlen : ∀ r j b, (hp99 s q st name (splitN 44 t) r j b).length = 9 := fun _ _ _ => rfl
  have hsc := iter_find (js := some [0, 1, 2, 3]) (hl := 9) (body := exec (zenv X N) N false fn148L0) (fun j => (parseO ((splitN 44 t).getD j [])).2 ≠ 0) ((splitN 44 t).length - 1) (fun j => ⟨R148j, hp99 s q st name (splitN 44 t) (restN 44 t j) j true⟩) (b := 2) (s1 := ⟨[.c (.yld 8), .c (.ptr 5 0 0), .c (.ptr 4 0 0), .c (.ptr 6 0 0), .any, i64 (-1), .any, .any, .any, .any, bl true, .any], hp99 s q st name (splitN 44 t) (restN 44 t ((splitN 44 t).length - 1)) ((splitN 44 t).length - 1) true⟩) (Q := fun k s' => ∃ u, s'.heap = (hp99 s q st name (splitN 44 t) (restN 44 t k) k true).set 8 (.loop false (some .ret) (regs99 s q st) [17] fn99A fn99B) ++ u) (fuel := N) (by omega)
    (fun j hj hp => r148j hX (by omega) ht (by omega) (Decidable.not_not.1 hp))
    (by
      have h1 := (restN_last 44 t).1
      have hpc := p147 hX.x (N := N) (s := restN 44 t ((splitN 44 t).length - 1)) (c := 44)
      rw [h1] at hpc
      have ho : oInt none = -1 := rfl
      rw [ho] at hpc
      have k1 : (-1 : Int) < 0 := by omega
      have hs := hstr (restN 44 t ((splitN 44 t).length - 1)) ((splitN 44 t).length - 1) true
      have hs2 := hsep (restN 44 t ((splitN 44 t).length - 1)) ((splitN 44 t).length - 1) true
      generalize hp99 s q st name (splitN 44 t) (restN 44 t ((splitN 44 t).length - 1)) ((splitN 44 t).length - 1) true = HH at *
      simp only [fn148L0, R148j, hpc, hs, hs2, k1, List.drop_zero, List.take, freeze_nil, reachV, reachC, ite_self, List.flatMap_cons, List.flatMap_nil, evs, Nat.reduceEqDiff])
    (by
      intro j hj hp
      obtain ⟨i, h1, h2, h3, h4⟩ := restN_round 44 t j (by omega)
      have hxj := hx j (by omega)
      obtain ⟨u, hy⟩ := yl99b hX (N := N) (s := s) (q := q) (st := st) (name := name) (r := restN 44 t j) (ps := splitN 44 t) (j := j) (by omega) (by omega) hp
      have hrl := restN_len 44 t j
      have hpc := p147 hX.x (N := N) (s := restN 44 t j) (c := 44)
      rw [h1] at hpc
      have w1 : IntKind.i64.wrap ((i : Int) + 0) = (i : Int) := by rw [Int.add_zero]; exact wrap_nat (by omega)
      have k1 : i ≤ (restN 44 t j).length := by omega
      have k3 : ¬ (i : Int) < 0 := by omega
      have hos : oInt (some i) = (i : Int) := rfl
      have hs := hstr (restN 44 t j) j true
      have hs2 := hsep (restN 44 t j) j true
      have hs3 : (hp99 s q st name (splitN 44 t) (restN 44 t j) j true)[6]? = some (.cells [.d (.int .i64 0)] 0 false) := rfl
      rw [← h3] at hy
      generalize hH2 : (hp99 s q st name (splitN 44 t) (restN 44 t j) j true).set 8 (.loop false (some .ret) (regs99 s q st) [17] fn99A fn99B) ++ u = H2 at hy
      refine ⟨⟨[.c (.yld 8), .c (.ptr 5 0 0), .c (.ptr 4 0 0), .c (.ptr 6 0 0), .any, i64 (i : Int), strV ((restN 44 t j).take i), .any, .any, .any, bl false, bl true], H2⟩, ?_, u, ?_⟩
      · generalize hp99 s q st name (splitN 44 t) (restN 44 t j) j true = HH at *
        generalize restN 44 t j = r at *
        simp only [strV, bl] at hy
        simp only [fn148L0, R148j, strV, optNat, hpc, hos, hy, hs, hs2, hs3, w1, k1, k3, Option.map_none, Bool.not_false, Nat.zero_le, List.take, List.drop, List.map_cons, List.map_nil, freeze_nil, reachV, reachC, ite_self, List.flatMap_cons, List.flatMap_nil, evs]
      · exact hH2.symm)
  simp only [R148j, i64, bl, hr0] at hsc
  have hb0 : ∀ r j, (hp99 s q st name (splitN 44 t) r j true)[5]? = some (.cells [.d (.str [44])] 0 false) := fun _ _ => rfl
  have g1 : ((1 : Int) == 0) = false := rfl
  have hstart := hsep t 0 true
  have hlen0 := hlen t 0 true
  rcases hsc with ⟨hno, hit⟩ | ⟨k, s', hk, hp, hno, ⟨u, hq⟩, hit⟩
  · obtain ⟨h1, h2⟩ := restN_last 44 t
    have hs := hstr (restN 44 t ((splitN 44 t).length - 1)) ((splitN 44 t).length - 1) true
    by_cases hlast : (parseO ((splitN 44 t).getD ((splitN 44 t).length - 1) [])).2 = 0
    · left
      refine ⟨fun j hj => ?_, ?_⟩
      · by_cases hj2 : j = (splitN 44 t).length - 1
        · rw [hj2]; exact hlast
        · exact Decidable.not_not.1 (hno j (by omega))
      · obtain ⟨u, hy⟩ := yl99 hX (N := N) (s := s) (q := q) (st := st) (name := name) (r := restN 44 t ((splitN 44 t).length - 1)) (ps := splitN 44 t) (j := (splitN 44 t).length - 1) (by have := hx _ (show (splitN 44 t).length - 1 < _ by omega); omega) (by omega) (by have := hx _ (show (splitN 44 t).length - 1 < _ by omega); omega) (by omega) hlast
        rw [show (splitN 44 t).length - 1 + 1 = (splitN 44 t).length by omega, ← h2] at hy
        refine ⟨u, (rf_fin _ _ _ _ _ _ _ _ _ (by rfl)).trans ?_⟩
        generalize hp99 s q st name (splitN 44 t) (restN 44 t ((splitN 44 t).length - 1)) (splitN 44 t).length true ++ u = H2 at *
        generalize hp99 s q st name (splitN 44 t) (restN 44 t ((splitN 44 t).length - 1)) ((splitN 44 t).length - 1) true = H1 at *
        generalize hp99 s q st name (splitN 44 t) t 0 true = H0 at *
        simp only [strV] at hy
        simp only [hstart, hlen0, hit, hs, hy, g1, Int.natCast_one, List.drop_zero, List.take, List.map_cons, List.map_nil, evs, Nat.reduceAdd, Nat.reduceBEq, Nat.reduceSub]
    · right
      refine ⟨⟨_, by omega, hlast⟩, ?_⟩
      obtain ⟨u, hy⟩ := yl99b hX (N := N) (s := s) (q := q) (st := st) (name := name) (r := restN 44 t ((splitN 44 t).length - 1)) (ps := splitN 44 t) (j := (splitN 44 t).length - 1) (by have := hx _ (show (splitN 44 t).length - 1 < _ by omega); omega) (by have := hx _ (show (splitN 44 t).length - 1 < _ by omega); omega) hlast
      rw [← h2] at hy
      refine ⟨restN 44 t ((splitN 44 t).length - 1), (splitN 44 t).length - 1, u, (rf_fin _ _ _ _ _ _ _ _ _ (by rfl)).trans ?_⟩
      generalize (hp99 s q st name (splitN 44 t) (restN 44 t ((splitN 44 t).length - 1)) ((splitN 44 t).length - 1) true).set 8 (.loop false (some .ret) (regs99 s q st) [17] fn99A fn99B) ++ u = H2 at *
      generalize hp99 s q st name (splitN 44 t) (restN 44 t ((splitN 44 t).length - 1)) ((splitN 44 t).length - 1) true = H1 at *
      generalize hp99 s q st name (splitN 44 t) t 0 true = H0 at *
      simp only [strV] at hy
      simp only [hstart, hlen0, hit, hs, hy, g1, Int.natCast_one, List.drop_zero, List.take, List.map_cons, List.map_nil, evs, Nat.reduceAdd, Nat.reduceBEq, Nat.reduceSub]
  · right
    refine ⟨⟨k, by omega, hp⟩, restN 44 t k, k, u, (rf_fin _ _ _ _ _ _ _ _ _ (by rfl)).trans ?_⟩
    obtain ⟨r, H⟩ := s'
    simp only at hq
    subst hq
    generalize (hp99 s q st name (splitN 44 t) (restN 44 t k) k true).set 8 (.loop false (some .ret) (regs99 s q st) [17] fn99A fn99B) ++ u = H2 at *
    generalize hp99 s q st name (splitN 44 t) t 0 true = H0 at *
    simp only [hstart, hlen0, hit, g1, Int.natCast_one, List.drop_zero, List.take, evs, Nat.reduceAdd, Nat.reduceBEq, Nat.reduceSub]
end Mini
end Go.Proofs.YtgjlofpfbhioaaaGreatDoor
namespace Go.Proofs.YtgjlofpfbhioaaaGreatDoor
namespace Mini
open Go
variable {m : Int} {X : Ctx}
def accW : List Nat := [97, 99, 99, 101, 112, 116, 101, 100]
def rejW : List Nat := [114, 101, 106, 101, 99, 116, 101, 100]
def rvJ (p : List Nat) : Nat → Nat
  | 0 => 0
  | k + 1 => if p = reasT (k + 1) then k + 1 else rvJ p k
def osJ (t : List Nat) : List Oid := osP (splitN 44 t) (splitN 44 t).length
def readE (s : List Nat) : En × Int × Bool :=
  if (splitN 32 s).length < 4 then (e0, 0, false)
  else if numS ((splitN 32 s).getD ((splitN 32 s).length - 1) []) 5 < 0 then (e0, 0, false)
  else if (splitN 32 s).getD 1 [] = accW ∧ (splitN 32 s).length = 4 then
    if (splitN 32 s).getD 2 [] = [45] then (⟨(splitN 32 s).getD 0 [], true, 0, 0, .nils, []⟩, numS ((splitN 32 s).getD 3 []) 5, true)
    else if itemsOk (splitN 44 ((splitN 32 s).getD 2 [])) then (⟨(splitN 32 s).getD 0 [], true, 0, 0, slO (osJ ((splitN 32 s).getD 2 [])), osJ ((splitN 32 s).getD 2 [])⟩, numS ((splitN 32 s).getD 3 []) 5, true)
    else (e0, 0, false)
  else if (splitN 32 s).getD 1 [] = rejW ∧ (splitN 32 s).length = 5 then
    if rvJ ((splitN 32 s).getD 2 []) 3 = 0 ∨ numS ((splitN 32 s).getD 3 []) 3 < 0 then (e0, 0, false)
    else (⟨(splitN 32 s).getD 0 [], false, rvJ ((splitN 32 s).getD 2 []) 3, numS ((splitN 32 s).getD 3 []) 3, .nils, []⟩, numS ((splitN 32 s).getD 4 []) 5, true)
  else (e0, 0, false)
abbrev R99 (q : List (List Nat)) (st : Int) (j : Nat) : List V := [.any, .c (.ptr 0 0 0), .c (.ptr 1 0 0), .c (.ptr 2 0 0), .c (.d (slS q)), .any, .c (.ptr 3 0 0), i64 st, .any, .any, .any, .c (.d (.int .u8 (j : Int))), .any, .any, .any, .any, .any, .any, .any, .any, .any, .any, .any]
theorem it99 (hX : XOj m X) {N : Nat} (hN : 10 ≤ N) {q : List (List Nat)} {st : Int} {nm : List Nat} {ba : Bool} {h0 h1 h2 : Ob} (hq : 2 < q.length) : iter (some [1, 2, 3, 4, 6, 7, 11]) 4 (exec (zenv X N) N false fn99L0) N ⟨R99 q st 1, [h0, h1, h2, .cells [.d (.str nm), .d (.bool ba), .d (.int .u8 0), .d (.int .i64 0), .d .nils] 0 false]⟩ =
    some (.exit 3, ⟨[.any, .c (.ptr 0 0 0), .c (.ptr 1 0 0), .c (.ptr 2 0 0), .c (.d (slS q)), .any, .c (.ptr 3 0 0), i64 st, .any, .any, .any, .c (.d (.int .u8 4)), .any, .any, .any, .any, .any, .any, .any, .any, bl false, .any, .any], [h0, h1, h2, .cells [.d (.str nm), .d (.bool ba), .d (.int .u8 (rvJ (q.getD 2 []) 3 : Int)), .d (.int .i64 0), .d .nils] 0 false]⟩) := by
  have h2' := slS_at q (i := 2) hq
  refine iter_to (fun i => ⟨R99 q st i, [h0, h1, h2, .cells [.d (.str nm), .d (.bool ba), .d (.int .u8 (rvJ (q.getD 2 []) (i - 1) : Int)), .d (.int .i64 0), .d .nils] 0 false]⟩) (e := .exit 3) (fun h => by cases h) 3 1 N (fun j h1j hj => ?_) ?_ (by omega)
  · have h101 := hX.vc (k := 101) (F := fn101) rfl (f101 hX (N := N) (by omega) (k := j) (by omega))
    have h4 : (j : Int) ≤ 3 := by omega
    have h6 : IntKind.u8.wrap ((j : Int) + 1) = ((j + 1 : Nat) : Int) := by
      rw [← wrap_u8 (n := j + 1) (by omega)]; rfl
    have hrv : rvJ (q.getD 2 []) (j + 1 - 1) = if q.getD 2 [] = reasT j then j else rvJ (q.getD 2 []) (j - 1) := by
      obtain ⟨k, rfl⟩ : ∃ k, j = k + 1 := ⟨j - 1, by omega⟩
      rfl
    rw [hrv]
    simp only [strV] at h101
    generalize rvJ (q.getD 2 []) (j - 1) = rv at *
    generalize q.getD 2 [] = p at *
    generalize reasT j = rt at *
    by_cases hp : p = rt
    · rw [if_pos hp]
      subst hp
      have hb : (p == p) = true := by simp
      refine ⟨⟨[.any, .c (.ptr 0 0 0), .c (.ptr 1 0 0), .c (.ptr 2 0 0), .c (.d (slS q)), .any, .c (.ptr 3 0 0), i64 st, .any, .any, .any, .c (.d (.int .u8 ((j + 1 : Nat) : Int))), .any, .any, .any, .any, .any, .any, .any, .any, bl true, bl true, .any], [h0, h1, h2, .cells [.d (.str nm), .d (.bool ba), .d (.int .u8 (j : Int)), .d (.int .i64 0), .d .nils] 0 false]⟩, ?_, gc_le (Nat.le_refl 4)⟩
      simp only [fn99L0, R99, ob?, binStr, splice, h2', h101, h4, h6, hb, an2, List.take, List.drop, List.map_cons, List.map_nil, List.set_cons_zero, List.set_cons_succ, ↓sp_ixa, evs, Nat.reduceAdd, Nat.reduceLeDiff]
    · rw [if_neg hp]
      have hb : (p == rt) = false := by rw [beqS]; exact decide_eq_false hp
      refine ⟨⟨[.any, .c (.ptr 0 0 0), .c (.ptr 1 0 0), .c (.ptr 2 0 0), .c (.d (slS q)), .any, .c (.ptr 3 0 0), i64 st, .any, .any, .any, .c (.d (.int .u8 ((j + 1 : Nat) : Int))), .any, .any, .any, .any, .any, .any, .any, .any, bl true, bl false, .any], [h0, h1, h2, .cells [.d (.str nm), .d (.bool ba), .d (.int .u8 (rv : Int)), .d (.int .i64 0), .d .nils] 0 false]⟩, ?_, gc_le (Nat.le_refl 4)⟩
      simp only [fn99L0, R99, binStr, h2', h101, h4, h6, hb, an2, List.take, List.map_cons, List.map_nil, ↓sp_ixa, evs, Nat.reduceAdd]
  · have h4 : ¬ ((1 + 3 : Nat) : Int) ≤ 3 := by omega
    have h5 : ((1 + 3 : Nat) : Int) = 4 := rfl
    show exec (zenv X N) N false fn99L0 ⟨R99 q st (1 + 3), [h0, h1, h2, .cells [.d (.str nm), .d (.bool ba), .d (.int .u8 (rvJ (q.getD 2 []) 3 : Int)), .d (.int .i64 0), .d .nils] 0 false]⟩ = _
    rw [h5] at h4
    generalize rvJ (q.getD 2 []) 3 = rv
    simp only [fn99L0, R99, h5, h4, evs, Nat.reduceAdd]
end Mini
end Go.Proofs.YtgjlofpfbhioaaaGreatDoor
namespace Go.Proofs.YtgjlofpfbhioaaaGreatDoor
namespace Mini
open Go
variable {m : Int} {X : Ctx}
theorem f99 (hX : XOj m X) {N : Nat} {s : List Nat} (hN : s.length + 100 ≤ N) (hs : s.length < 800000) : vcallN X N 99 [strV s] = some (.tup [.agg ((readE s).1.ds.map .d), i64 (readE s).2.1, bl (readE s).2.2]) := by
  obtain ⟨N, rfl⟩ : ∃ M, N = M + 1 := ⟨N - 1, by omega⟩
  have hF : fnsX 99 = some fn99'' := rfl
  obtain ⟨hl1, hl2⟩ := splitN_len 32 s
  have hpc : (zenv X N).prim 92 [.c (.d (.str s)), .c (.d (.str [32]))] = some (.c (.d (slS (splitN 32 s)))) := by
    rw [zenv_pr]
    refine hX.prim ?_
    have e : ∀ x : List Nat, primJ 92 [.c (.d (.str x)), .c (.d (.str [32]))] = if x.length < 4294967281 then some (.c (.d (.sl ((splitN 32 x).map .str) (splitN 32 x).length))) else none := fun _ => rfl
    rw [e, if_pos (by omega)]
    rfl
  have h122 : ∀ (x : List Nat) (k : Int), k ≤ 10 → (zenv X N).prim 122 [.c (.d (.str x)), .c (.d (.int .i64 k))] = some (.c (.d (.int .i64 (numS x k)))) := by
    intro x k hk
    rw [zenv_pr]
    refine hX.prim ?_
    show (if k ≤ 10 then some (I64 (numS x k)) else none) = _
    rw [if_pos hk]
  have hz0 : e0.ds.map C.d = zE := rfl
  unfold readE
  generalize hq : splitN 32 s = q at *
  have hlw := slS_len q
  by_cases c1 : q.length < 4
  · rw [if_pos c1, hz0]
    have c1' : (q.length : Int) < 4 := by omega
    refine vcall_of (r := .tup [.agg zE, i64 0, bl false]) (H := [.cells zE 0 false, .cells [.d (.int .i64 0)] 0 false, .cells [.d (.bool false)] 0 false]) ?_ rfl
    rw [hX.fn hF]
    refine (rf_fin _ _ _ _ _ _ _ _ _ (by rfl)).trans ?_
    simp only [zE, ob?, strV, hpc, hlw, c1', lay, splice, List.take, List.drop, List.map_cons, List.map_nil, List.set_cons_zero, List.set_cons_succ, freeze_nil, reachV, reachC, ite_self, List.flatMap_cons, List.flatMap_nil, ↓sp_len, evs, Nat.reduceAdd, Nat.reduceLeDiff, Nat.reduceSub]
  rw [if_neg c1]
  have c1' : ¬ (q.length : Int) < 4 := by omega
  have h0 := slS_at q (i := 0) (by omega)
  have h1 := slS_at q (i := 1) (by omega)
  have h2 := slS_at q (i := 2) (by omega)
  have h3 := slS_at q (i := 3) (by omega)
  have hL := slS_at q (i := q.length - 1) (by omega)
  have hw1 : IntKind.i64.wrap ((q.length : Int) - 1) = ((q.length - 1 : Nat) : Int) := by
    rw [← wrap_nat (k := q.length - 1) (by omega)]
    congr 1
    omega
  have hmem : ∀ j, j < q.length → (q.getD j []).length ≤ s.length := fun j hj => hl2 _ (by
    rw [List.getD_eq_getElem?_getD, List.getElem?_eq_getElem hj]
    exact List.getElem_mem _)
  have hm2 := hmem 2 (by omega)
  have hsum := h122 (q.getD (q.length - 1) []) 5 (by decide)
  have hat := h122 (q.getD 3 []) 3 (by decide)
  have an3 : asNat (.c (.d (.int .i64 3))) = some 3 := rfl
  by_cases c2 : numS (q.getD (q.length - 1) []) 5 < 0
  · rw [if_pos c2, hz0]
    refine vcall_of (r := .tup [.agg zE, i64 0, bl false]) (H := [.cells zE 0 false, .cells [.d (.int .i64 0)] 0 false, .cells [.d (.bool false)] 0 false, .cells [.d (.str (q.getD 0 [])), .d (.bool (q.getD 1 [] == accW)), .d (.int .u8 0), .d (.int .i64 0), .d .nils] 0 false]) ?_ rfl
    rw [hX.fn hF]
    refine (rf_fin _ _ _ _ _ _ _ _ _ (by rfl)).trans ?_
    generalize numS (q.getD (q.length - 1) []) 5 = st at *
    simp only [zE, accW, ob?, strV, binStr, hpc, hlw, c1', c2, h0, h1, hL, hw1, hsum, lay, splice, List.take, List.drop, List.map_cons, List.map_nil, List.set_cons_zero, List.set_cons_succ, freeze_nil, reachV, reachC, ite_self, List.flatMap_cons, List.flatMap_nil, ↓sp_len, ↓sp_ixa, evs, Nat.reduceAdd, Nat.reduceLeDiff, Nat.reduceSub]
  rw [if_neg c2]
  by_cases c3 : q.getD 1 [] = accW ∧ q.length = 4
  · rw [if_pos c3]
    obtain ⟨ha, hn4⟩ := c3
    have hsl : q.length - 1 = 3 := by omega
    rw [hsl] at hL hw1 hsum c2
    rw [hn4] at hlw hw1 c1'
    rw [ha] at h1
    have g4 : ((4 : Int) == 4) = true := rfl
    have gw : IntKind.i64.wrap (4 - 1) = 3 := rfl
    have gs : (accW == accW) = true := by simp
    have g14 : ¬ (4 : Int) < 4 := by omega
    have hy93 := f93 hX.x (N := N) (by omega) (s := q.getD 2 []) (c := [44]) (H := [.cells zE 0 false, .cells [.d (.int .i64 0)] 0 false, .cells [.d (.bool false)] 0 false, .cells (enK (q.getD 0 []) (.d .nils)) 0 false])
    have hcc := c148j hX (N := N) (s := s) (t := q.getD 2 []) (q := q) (st := numS (q.getD 3 []) 5) (name := q.getD 0 []) (by omega) (by omega)
    unfold osJ
    generalize hst : numS (q.getD 3 []) 5 = st at *
    simp only [strV] at hy93
    by_cases c4 : q.getD 2 [] = [45]
    · rw [if_pos c4]
      rw [c4] at h2
      have gd : (([45] : List Nat) == [45]) = true := by simp
      generalize q.getD 0 [] = q0 at *
      refine vcall_of (r := .tup [.agg [.d (.str q0), .d (.bool true), .d (.int .u8 0), .d (.int .i64 0), .d .nils], i64 st, bl true]) (H := [.cells [.d (.str q0), .d (.bool true), .d (.int .u8 0), .d (.int .i64 0), .d .nils] 0 false, .cells [.d (.int .i64 st)] 0 false, .cells [.d (.bool true)] 0 false, .cells [.d (.str q0), .d (.bool true), .d (.int .u8 0), .d (.int .i64 0), .d .nils] 0 false]) ?_ rfl
      rw [hX.fn hF]
      refine (rf_fin _ _ _ _ _ _ _ _ _ (by rfl)).trans ?_
      simp only [accW] at h1 gs
      simp only [ob?, strV, binStr, hpc, hlw, g14, c2, h0, h1, h2, hL, gw, gs, gd, g4, an1, an2, an3, hsum, Int.cast_ofNat_Int, lay, splice, List.take, List.drop, List.map_cons, List.map_nil, List.set_cons_zero, List.set_cons_succ, freeze_nil, reachV, reachC, ite_self, List.flatMap_cons, List.flatMap_nil, ↓sp_len, ↓sp_ixa, evs, Nat.reduceAdd, Nat.reduceLeDiff, Nat.reduceSub]
    rw [if_neg c4]
    have gd : (q.getD 2 [] == [45]) = false := by rw [beqS]; exact decide_eq_false c4
    have hfr : exec (zenv X N) N false (.fresh 6 (some 4) 17) ⟨regs99 s q st, [.cells zE 0 false, .cells [.d (.int .i64 0)] 0 false, .cells [.d (.bool false)] 0 false, .cells (enK (q.getD 0 []) (.d .nils)) 0 false, .cells [.d (.str (q.getD 2 []))] 0 false, .cells [.d (.str [44])] 0 false, .cells [.d (.int .i64 0)] 0 false]⟩ = some (.nrm, ⟨regs99 s q st, [.cells zE 0 false, .cells [.d (.int .i64 0)] 0 false, .cells [.d (.bool false)] 0 false, .cells (enK (q.getD 0 []) (.os 7 0 0 0 17 none)) 0 false, .cells [.d (.str (q.getD 2 []))] 0 false, .cells [.d (.str [44])] 0 false, .cells [.d (.int .i64 0)] 0 false, .cells [] 0 false]⟩) := rfl
    rcases hcc with ⟨hok, u, hc⟩ | ⟨⟨j, hj, hbad⟩, r, k, u, hc⟩
    · have hio : itemsOk (splitN 44 (q.getD 2 [])) := hok
      rw [if_pos hio]
      have hrf := ex_rf (E := zenv X N) (N := N) (f := .r 16) (ps := [17]) (asg := fn99A) (body := fn99B) (regs := regs99 s q st) (H := [.cells zE 0 false, .cells [.d (.int .i64 0)] 0 false, .cells [.d (.bool false)] 0 false, .cells (enK (q.getD 0 []) (.os 7 0 0 0 17 none)) 0 false, .cells [.d (.str (q.getD 2 []))] 0 false, .cells [.d (.str [44])] 0 false, .cells [.d (.int .i64 0)] 0 false, .cells [] 0 false]) (x := fnSj) rfl rfl hc rfl
      have hn := seqLen 44 (q.getD 2 [])
      have hwf := osP_wf (splitN 44 (q.getD 2 [])) (splitN 44 (q.getD 2 [])).length
      have hol := osP_len (splitN 44 (q.getD 2 [])) (Nat.le_refl _)
      have hfl := flC_len hwf
      rw [hol] at hfl
      unfold hp99 at hrf
      generalize restN 44 (q.getD 2 []) ((splitN 44 (q.getD 2 [])).length - 1) = rr at *
      generalize hos : osP (splitN 44 (q.getD 2 [])) (splitN 44 (q.getD 2 [])).length = os at *
      generalize (splitN 44 (q.getD 2 [])).length = n at *
      have hdp : ∀ x0 x1 x2 x3 x4 x5 x6 : Ob, ∀ t, deepC (x0 :: x1 :: x2 :: x3 :: x4 :: x5 :: x6 :: .cells (flC os) n false :: t) deepMax (.os 7 n 0 n 17 none) = some (slO os) := by
        intro x0 x1 x2 x3 x4 x5 x6 t
        have p2 : ((flC os).drop 0).take (n * 17) = (os.flatMap oD).map .d := by
          rw [List.drop_zero, List.take_of_length_le (by omega)]; rfl
        have p1 : 0 + n * 17 ≤ (flC os).length := by omega
        simp only [deepMax, deepC, ob?, if_true, if_pos p1, p2, mapO_d, Option.map_some]
        rw [slO, hol]
      generalize q.getD 0 [] = q0 at *
      generalize q.getD 2 [] = tt at *
      refine vcall_of (r := .tup [.agg (enK q0 (.os 7 n 0 n 17 none)), i64 st, bl true]) (H := [.cells (enK q0 (.os 7 n 0 n 17 none)) 0 false, .cells [.d (.int .i64 st)] 0 false, .cells [.d (.bool true)] 0 false, .cells (enK q0 (.os 7 n 0 n 17 none)) 0 false, .cells [.d (.str rr)] 0 false, .cells [.d (.str [44])] 0 false, .cells [.d (.int .i64 0)] 0 false, .cells (flC os) n false, .dead] ++ u) ?_ ?_
      · rw [hX.fn hF]
        refine (rf_fin _ _ _ _ _ _ _ _ _ (by rfl)).trans ?_
        simp only [strV, i64, bl, fnSj, regs99, enK, zE, List.length_cons, List.length_nil, Nat.reduceAdd, List.cons_append, List.nil_append, List.set_cons_zero, List.set_cons_succ] at hrf hfr hy93
        simp only [accW] at h1 gs
        simp only [enK, ob?, strV, binStr, hpc, hlw, g14, c2, h0, h1, h2, hL, gw, gs, gd, g4, an1, an2, an3, hsum, hy93, hfr, hrf, Int.cast_ofNat_Int, lay, splice, List.take, List.drop, List.map_cons, List.map_nil, List.set_cons_zero, List.set_cons_succ, freeze_nil, reachV, reachC, ite_self, List.flatMap_cons, List.flatMap_nil, ↓sp_len, ↓sp_ixa, evs, Nat.reduceAdd, Nat.reduceLeDiff, Nat.reduceSub]
      · simp only [enK, deepV, mapO, deepV1, List.cons_append, List.nil_append, hdp, bl, i64]
        rfl
    · have hio : ¬ itemsOk (splitN 44 (q.getD 2 [])) := fun h => hbad (h j hj)
      rw [if_neg hio, hz0]
      have hrf := ex_rf_out (E := zenv X N) (N := N) (f := .r 16) (ps := [17]) (asg := fn99A) (body := fn99B) (regs := regs99 s q st) (H := [.cells zE 0 false, .cells [.d (.int .i64 0)] 0 false, .cells [.d (.bool false)] 0 false, .cells (enK (q.getD 0 []) (.os 7 0 0 0 17 none)) 0 false, .cells [.d (.str (q.getD 2 []))] 0 false, .cells [.d (.str [44])] 0 false, .cells [.d (.int .i64 0)] 0 false, .cells [] 0 false]) (x := fnSj) (e := .ret) rfl rfl hc rfl
      have h0z : (((hp99 s q st (q.getD 0 []) (splitN 44 (q.getD 2 [])) r k true).set 8 (.loop false (some .ret) (regs99 s q st) [17] fn99A fn99B) ++ u).set 8 .dead)[0]? = some (.cells zE 0 false) := rfl
      have h1z : (((hp99 s q st (q.getD 0 []) (splitN 44 (q.getD 2 [])) r k true).set 8 (.loop false (some .ret) (regs99 s q st) [17] fn99A fn99B) ++ u).set 8 .dead)[1]? = some (.cells [.d (.int .i64 0)] 0 false) := rfl
      have h2z : (((hp99 s q st (q.getD 0 []) (splitN 44 (q.getD 2 [])) r k true).set 8 (.loop false (some .ret) (regs99 s q st) [17] fn99A fn99B) ++ u).set 8 .dead)[2]? = some (.cells [.d (.bool false)] 0 false) := rfl
      simp only [List.length_cons, List.length_nil, Nat.reduceAdd] at hrf
      generalize ((hp99 s q st (q.getD 0 []) (splitN 44 (q.getD 2 [])) r k true).set 8 (.loop false (some .ret) (regs99 s q st) [17] fn99A fn99B) ++ u).set 8 .dead = HH at *
      generalize q.getD 0 [] = q0 at *
      generalize q.getD 2 [] = tt at *
      refine vcall_of (r := .tup [.agg zE, i64 0, bl false]) (H := HH) ?_ rfl
      rw [hX.fn hF]
      refine (rf_fin _ _ _ _ _ _ _ _ _ (by rfl)).trans ?_
      simp only [strV, i64, bl, fnSj, regs99, enK, zE, List.length_cons, List.length_nil, Nat.reduceAdd, List.cons_append, List.nil_append] at hrf hfr hy93 h0z
      simp only [accW] at h1 gs
      simp only [zE, ob?, strV, binStr, hpc, hlw, g14, c2, h0, h1, h2, hL, gw, gs, gd, g4, an1, an2, an3, hsum, hy93, hfr, hrf, h0z, h1z, h2z, Int.cast_ofNat_Int, lay, splice, List.take, List.drop, List.map_cons, List.map_nil, freeze_nil, reachV, reachC, ite_self, List.flatMap_cons, List.flatMap_nil, ↓sp_len, ↓sp_ixa, evs, Nat.reduceAdd, Nat.reduceLeDiff, Nat.reduceSub]
  rw [if_neg c3]
  have hne : ¬ accW = rejW := by decide
  have gar : (accW == rejW) = false := by rw [beqS]; exact decide_eq_false hne
  have gaa : (accW == accW) = true := by simp
  have grr : (rejW == rejW) = true := by simp
  by_cases ca : q.getD 1 [] = accW
  · have hn4 : ((q.length : Int) == 4) = false := by
      rw [beq_eq_false_iff_ne]
      intro h
      exact c3 ⟨ca, by omega⟩
    rw [if_neg (by rintro ⟨h, _⟩; exact hne (ca.symm.trans h)), hz0]
    rw [ca] at h1
    simp only [accW, rejW] at h1 gar gaa
    refine vcall_of (r := .tup [.agg zE, i64 0, bl false]) (H := [.cells zE 0 false, .cells [.d (.int .i64 0)] 0 false, .cells [.d (.bool false)] 0 false, .cells [.d (.str (q.getD 0 [])), .d (.bool true), .d (.int .u8 0), .d (.int .i64 0), .d .nils] 0 false]) ?_ rfl
    rw [hX.fn hF]
    refine (rf_fin _ _ _ _ _ _ _ _ _ (by rfl)).trans ?_
    generalize numS (q.getD (q.length - 1) []) 5 = st at *
    simp only [zE, ob?, strV, binStr, hpc, hlw, c1', c2, h0, h1, hL, hw1, hsum, an1, gar, gaa, hn4, lay, splice, List.take, List.drop, List.map_cons, List.map_nil, List.set_cons_zero, List.set_cons_succ, freeze_nil, reachV, reachC, ite_self, List.flatMap_cons, List.flatMap_nil, ↓sp_len, ↓sp_ixa, evs, Nat.reduceAdd, Nat.reduceLeDiff, Nat.reduceSub]
  have gna : (q.getD 1 [] == accW) = false := by rw [beqS]; exact decide_eq_false ca
  by_cases cr : q.getD 1 [] = rejW
  case neg =>
    have gnr : (q.getD 1 [] == rejW) = false := by rw [beqS]; exact decide_eq_false cr
    rw [if_neg (by rintro ⟨h, _⟩; exact cr h), hz0]
    simp only [accW, rejW] at gna gnr
    refine vcall_of (r := .tup [.agg zE, i64 0, bl false]) (H := [.cells zE 0 false, .cells [.d (.int .i64 0)] 0 false, .cells [.d (.bool false)] 0 false, .cells [.d (.str (q.getD 0 [])), .d (.bool false), .d (.int .u8 0), .d (.int .i64 0), .d .nils] 0 false]) ?_ rfl
    rw [hX.fn hF]
    refine (rf_fin _ _ _ _ _ _ _ _ _ (by rfl)).trans ?_
    generalize numS (q.getD (q.length - 1) []) 5 = st at *
    simp only [zE, ob?, strV, binStr, hpc, hlw, c1', c2, h0, h1, hL, hw1, hsum, an1, gna, gnr, lay, splice, List.take, List.drop, List.map_cons, List.map_nil, List.set_cons_zero, List.set_cons_succ, freeze_nil, reachV, reachC, ite_self, List.flatMap_cons, List.flatMap_nil, ↓sp_len, ↓sp_ixa, evs, Nat.reduceAdd, Nat.reduceLeDiff, Nat.reduceSub]
  rw [cr] at h1 gna
  by_cases c5 : q.length = 5
  case neg =>
    have hn5 : ((q.length : Int) == 5) = false := by rw [beq_eq_false_iff_ne]; omega
    rw [if_neg (by rintro ⟨_, h⟩; exact c5 h), hz0]
    simp only [accW, rejW] at gna grr h1
    refine vcall_of (r := .tup [.agg zE, i64 0, bl false]) (H := [.cells zE 0 false, .cells [.d (.int .i64 0)] 0 false, .cells [.d (.bool false)] 0 false, .cells [.d (.str (q.getD 0 [])), .d (.bool false), .d (.int .u8 0), .d (.int .i64 0), .d .nils] 0 false]) ?_ rfl
    rw [hX.fn hF]
    refine (rf_fin _ _ _ _ _ _ _ _ _ (by rfl)).trans ?_
    generalize numS (q.getD (q.length - 1) []) 5 = st at *
    simp only [zE, ob?, strV, binStr, hpc, hlw, c1', c2, h0, h1, hL, hw1, hsum, an1, gna, grr, hn5, lay, splice, List.take, List.drop, List.map_cons, List.map_nil, List.set_cons_zero, List.set_cons_succ, freeze_nil, reachV, reachC, ite_self, List.flatMap_cons, List.flatMap_nil, ↓sp_len, ↓sp_ixa, evs, Nat.reduceAdd, Nat.reduceLeDiff, Nat.reduceSub]
  rw [if_pos ⟨cr, c5⟩]
  have hn5 : ((q.length : Int) == 5) = true := by rw [beq_iff_eq]; omega
  have hit := it99 hX (N := N) (by omega) (q := q) (st := numS (q.getD (q.length - 1) []) 5) (nm := q.getD 0 []) (ba := false) (h0 := .cells zE 0 false) (h1 := .cells [.d (.int .i64 0)] 0 false) (h2 := .cells [.d (.bool false)] 0 false) (by omega)
  have hq4 : q.getD 4 [] = q.getD (q.length - 1) [] := by rw [c5]
  rw [hq4]
  simp only [R99, zE, i64, bl, Int.natCast_one] at hit
  simp only [accW, rejW] at gna grr h1
  by_cases d1 : rvJ (q.getD 2 []) 3 = 0
  · rw [if_pos (.inl d1), hz0]
    rw [d1] at hit
    simp only [Int.natCast_zero] at hit
    have g0 : ((0 : Int) == 0) = true := rfl
    generalize hatv : numS (q.getD 3 []) 3 = at3 at *
    refine vcall_of (r := .tup [.agg zE, i64 0, bl false]) (H := [.cells zE 0 false, .cells [.d (.int .i64 0)] 0 false, .cells [.d (.bool false)] 0 false, .cells [.d (.str (q.getD 0 [])), .d (.bool false), .d (.int .u8 0), .d (.int .i64 at3), .d .nils] 0 false]) ?_ rfl
    rw [hX.fn hF]
    refine (rf_fin _ _ _ _ _ _ _ _ _ (by rfl)).trans ?_
    generalize numS (q.getD (q.length - 1) []) 5 = st at *
    simp only [zE, ob?, strV, binStr, hpc, hlw, c1', c2, h0, h1, h3, hL, hw1, hsum, hat, an1, an3, gna, grr, hn5, hit, g0, lay, splice, List.take, List.drop, List.map_cons, List.map_nil, List.set_cons_zero, List.set_cons_succ, freeze_nil, reachV, reachC, ite_self, List.flatMap_cons, List.flatMap_nil, ↓sp_len, ↓sp_ixa, evs, Nat.reduceAdd, Nat.reduceLeDiff, Nat.reduceBEq, Nat.reduceSub]
  · have g0 : (((rvJ (q.getD 2 []) 3 : Nat) : Int) == 0) = false := by rw [beq_eq_false_iff_ne]; omega
    by_cases d2 : numS (q.getD 3 []) 3 < 0
    · rw [if_pos (.inr d2), hz0]
      generalize rvJ (q.getD 2 []) 3 = rv at *
      generalize hatv : numS (q.getD 3 []) 3 = at3 at *
      refine vcall_of (r := .tup [.agg zE, i64 0, bl false]) (H := [.cells zE 0 false, .cells [.d (.int .i64 0)] 0 false, .cells [.d (.bool false)] 0 false, .cells [.d (.str (q.getD 0 [])), .d (.bool false), .d (.int .u8 (rv : Int)), .d (.int .i64 at3), .d .nils] 0 false]) ?_ rfl
      rw [hX.fn hF]
      refine (rf_fin _ _ _ _ _ _ _ _ _ (by rfl)).trans ?_
      generalize numS (q.getD (q.length - 1) []) 5 = st at *
      simp only [zE, ob?, strV, binStr, hpc, hlw, c1', c2, h0, h1, h3, hL, hw1, hsum, hat, an1, an3, gna, grr, hn5, hit, g0, d2, lay, splice, List.take, List.drop, List.map_cons, List.map_nil, List.set_cons_zero, List.set_cons_succ, freeze_nil, reachV, reachC, ite_self, List.flatMap_cons, List.flatMap_nil, ↓sp_len, ↓sp_ixa, evs, Nat.reduceAdd, Nat.reduceLeDiff, Nat.reduceBEq, Nat.reduceSub]
    · rw [if_neg (by rintro (h | h); exact d1 h; exact d2 h)]
      generalize rvJ (q.getD 2 []) 3 = rv at *
      generalize hatv : numS (q.getD 3 []) 3 = at3 at *
      generalize numS (q.getD (q.length - 1) []) 5 = st at *
      generalize q.getD 0 [] = q0 at *
      refine vcall_of (r := .tup [.agg [.d (.str q0), .d (.bool false), .d (.int .u8 (rv : Int)), .d (.int .i64 at3), .d .nils], i64 st, bl true]) (H := [.cells [.d (.str q0), .d (.bool false), .d (.int .u8 (rv : Int)), .d (.int .i64 at3), .d .nils] 0 false, .cells [.d (.int .i64 st)] 0 false, .cells [.d (.bool true)] 0 false, .cells [.d (.str q0), .d (.bool false), .d (.int .u8 (rv : Int)), .d (.int .i64 at3), .d .nils] 0 false]) ?_ rfl
      rw [hX.fn hF]
      refine (rf_fin _ _ _ _ _ _ _ _ _ (by rfl)).trans ?_
      simp only [ob?, strV, binStr, hpc, hlw, c1', c2, h0, h1, h3, hL, hw1, hsum, hat, an1, an3, gna, grr, hn5, hit, g0, d2, lay, splice, List.take, List.drop, List.map_cons, List.map_nil, List.set_cons_zero, List.set_cons_succ, freeze_nil, reachV, reachC, ite_self, List.flatMap_cons, List.flatMap_nil, ↓sp_len, ↓sp_ixa, evs, Nat.reduceAdd, Nat.reduceLeDiff, Nat.reduceBEq, Nat.reduceSub]
end Mini
end Go.Proofs.YtgjlofpfbhioaaaGreatDoor
namespace Go.Proofs.YtgjlofpfbhioaaaGreatDoor
namespace Mini
open Go
variable {m : Int} {X : Ctx}
def exD (l : List Oid) : D := if l.length = 0 then .nils else slO l
theorem f79 (hX : XOj m X) {N : Nat} (hN : 1 ≤ N) {w : D} {l : List Oid} (hw : isSet w l) (hl : wfS l) (hlen : l.length < 1000000) : vcallN X N 79 [.c (.d w)] = some (.c (.d (exD l))) := by
  obtain ⟨N, rfl⟩ : ∃ M, N = M + 1 := ⟨N - 1, by omega⟩
  have hF : fnsX 79 = some fn79' := rfl
  have hln := hw.len
  unfold exD
  by_cases c1 : l.length = 0
  · rw [if_pos c1]
    have g0 : ((l.length : Int) == 0) = true := by rw [beq_iff_eq]; omega
    refine vcall_of (r := .c (.d .nils)) (H := []) ?_ rfl
    rw [hX.fn hF]
    refine (rf_fin _ _ _ _ _ _ _ _ _ (by rfl)).trans ?_
    simp only [hln, g0, ↓sp_len, evs, Nat.reduceSub]
  · rw [if_neg c1]
    have g0 : ((l.length : Int) == 0) = false := by rw [beq_eq_false_iff_ne]; omega
    have hel := hw.elems hl
    have hfl : (flC l).length = l.length * 17 := flC_len hl
    have hfc : (l.flatMap oD).map C.d = flC l := rfl
    rw [hfc] at hel
    have k1 : l.length * 68 ≤ 1099511627776 := by omega
    have k2 : l.length ≤ 1099511627776 := by omega
    have hrl : (rep [C.d (.int .u8 0), C.d (.int .u32 0), C.d (.int .u32 0), C.d (.int .u32 0), C.d (.int .u32 0), C.d (.int .u32 0), C.d (.int .u32 0), C.d (.int .u32 0), C.d (.int .u32 0), C.d (.int .u32 0), C.d (.int .u32 0), C.d (.int .u32 0), C.d (.int .u32 0), C.d (.int .u32 0), C.d (.int .u32 0), C.d (.int .u32 0), C.d (.int .u32 0)] l.length).length = l.length * 17 := by rw [rep_len]; rfl
    have htk : (flC l).take (l.length * 17) = flC l := List.take_of_length_le (by omega)
    have hmin : min l.length l.length = l.length := Nat.min_self _
    refine vcall_of (r := .c (.os 0 0 0 l.length 17 (some l.length))) (H := [.cells (flC l) 0 false]) ?_ ?_
    · rw [hX.fn hF]
      refine (rf_fin _ _ _ _ _ _ _ _ _ (by rfl)).trans ?_
      generalize hrp : rep [C.d (.int .u8 0), C.d (.int .u32 0), C.d (.int .u32 0), C.d (.int .u32 0), C.d (.int .u32 0), C.d (.int .u32 0), C.d (.int .u32 0), C.d (.int .u32 0), C.d (.int .u32 0), C.d (.int .u32 0), C.d (.int .u32 0), C.d (.int .u32 0), C.d (.int .u32 0), C.d (.int .u32 0), C.d (.int .u32 0), C.d (.int .u32 0), C.d (.int .u32 0)] l.length = rp at *
      have hsp : splice rp 0 (flC l) = flC l := by
        unfold splice
        rw [List.take_zero, List.nil_append, Nat.zero_add, hfl, ← hrl, List.drop_length, List.append_nil]
      generalize flC l = fc at *
      simp only [hln, g0, k1, k2, hrp, hrl, hel, htk, hmin, hsp, Nat.le_refl, ob?, List.map_cons, List.map_nil, List.set_cons_zero, ↓sp_len, evs, Nat.reduceSub]
    · have p2 : ((flC l).drop 0).take (l.length * 17) = (l.flatMap oD).map .d := by
        rw [List.drop_zero, htk]; rfl
      have p1 : 0 + l.length * 17 ≤ (flC l).length := by omega
      simp only [deepV, deepV1, deepMax, deepC, ob?, if_true, if_pos p1, p2, mapO_d, Option.map_some]
      rfl
end Mini
end Go.Proofs.YtgjlofpfbhioaaaGreatDoor
namespace Go.Proofs.YtgjlofpfbhioaaaGreatDoor
namespace Mini
open Go
variable {m : Int} {X : Ctx}
def fn71A : I := .seq (.reg false [⟨none, .mov (.r 13)⟩] [(5, 0)] []) ( .reg false [⟨none, .mov (.r 14)⟩] [(6, 0)] [])
def fn71B : I := .block 1 ( .seq (.seq (.reg false [⟨none, .ld false 1 (.r 1)⟩, ⟨none, .len (.l 0)⟩, ⟨none, .bin .eql (.l 0) (.v (.c (.d (.int .i64 4096))))⟩] [(15, 0)] []) ( .cond (.r 15) ( .seq (.reg true [⟨none, .ld false 1 (.r 1)⟩, ⟨none, .ld false 1 (.r 2)⟩, ⟨none, .ld false 1 (.r 3)⟩, ⟨none, .st 1 (.r 1) (.l 2)⟩, ⟨none, .st 1 (.r 2) (.l 2)⟩, ⟨none, .st 1 (.r 3) (.l 2)⟩, ⟨none, .st 1 (.r 4) (.v (.c (.d (.int .i64 3))))⟩] [] [((.r 2), (.r 1)), ((.r 3), (.r 1)), ((.r 3), (.r 2))]) ( .ret)) ( .skip))) ( .seq (.reg false [⟨none, .mov (.r 5)⟩, ⟨none, .vc 99 [(.l 0)]⟩, ⟨none, .mov (.l 0)⟩, ⟨none, .ext (.l 0) 0⟩, ⟨none, .ext (.l 1) 1⟩, ⟨none, .ext (.l 2) 2⟩, ⟨none, .pre⟩, ⟨none, .ini 5 (.l 3)⟩, ⟨none, .mov (.l 3)⟩, ⟨none, .mov (.l 3)⟩] [(7, 2), (8, 1), (9, 0)] []) ( .seq (.seq (.reg false [⟨none, .mov (.r 9)⟩, ⟨none, .un .not (.l 0)⟩] [(16, 0)] []) ( .cond (.r 16) ( .seq (.reg true [⟨none, .ld false 1 (.r 1)⟩, ⟨none, .ld false 1 (.r 2)⟩, ⟨none, .ld false 1 (.r 3)⟩, ⟨none, .st 1 (.r 1) (.l 2)⟩, ⟨none, .st 1 (.r 2) (.l 2)⟩, ⟨none, .st 1 (.r 3) (.l 2)⟩, ⟨none, .st 1 (.r 4) (.v (.c (.d (.int .i64 6))))⟩] [] [((.r 2), (.r 1)), ((.r 3), (.r 1)), ((.r 3), (.r 2))]) ( .ret)) ( .skip))) ( .seq (.seq (.reg false [⟨none, .ld true 5 (.r 7)⟩, ⟨none, .vc 48 [(.l 0)]⟩, ⟨none, .mov (.l 0)⟩] [(10, 0)] []) ( .seq (.reg false [⟨none, .mov (.r 10)⟩, ⟨none, .bin .neq (.l 0) (.v (.c (.d (.int .i64 0))))⟩] [(17, 0)] []) ( .cond (.r 17) ( .seq (.reg true [⟨none, .ld false 1 (.r 1)⟩, ⟨none, .ld false 1 (.r 2)⟩, ⟨none, .ld false 1 (.r 3)⟩, ⟨none, .mov (.r 10)⟩, ⟨none, .st 1 (.r 1) (.l 3)⟩, ⟨none, .st 1 (.r 2) (.l 3)⟩, ⟨none, .st 1 (.r 3) (.l 3)⟩, ⟨none, .st 1 (.r 4) (.l 3)⟩] [] [((.r 2), (.r 1)), ((.r 3), (.r 1)), ((.r 3), (.r 2))]) ( .ret)) ( .skip)))) ( .seq (.reg true [⟨none, .ld false 1 (.r 3)⟩, ⟨none, .mov (.r 5)⟩, ⟨none, .mov (.r 5)⟩, ⟨none, .pc 100 [(.l 0), (.v (.c (.d (.int .u8 32))))]⟩, ⟨none, .sls (.l 2) none (some (.l 0))⟩, ⟨none, .vc 74 [(.l 4), (.l 0)]⟩, ⟨none, .mov (.l 0)⟩] [(11, 0)] []) ( .seq (.seq (.reg false [⟨none, .mov (.r 11)⟩, ⟨none, .mov (.r 8)⟩, ⟨none, .bin .neq (.l 1) (.l 0)⟩] [(18, 0)] []) ( .cond (.r 18) ( .seq (.reg true [⟨none, .ld false 1 (.r 1)⟩, ⟨none, .ld false 1 (.r 2)⟩, ⟨none, .ld false 1 (.r 3)⟩, ⟨none, .st 1 (.r 1) (.l 2)⟩, ⟨none, .st 1 (.r 2) (.l 2)⟩, ⟨none, .st 1 (.r 3) (.l 2)⟩, ⟨none, .st 1 (.r 4) (.v (.c (.d (.int .i64 24))))⟩] [] [((.r 2), (.r 1)), ((.r 3), (.r 1)), ((.r 3), (.r 2))]) ( .ret)) ( .skip))) ( .seq (.reg false [⟨none, .fa 4 (.r 7)⟩, ⟨none, .ld false 1 (.l 0)⟩, ⟨none, .vc 79 [(.l 0)]⟩, ⟨none, .fa 4 (.r 7)⟩, ⟨none, .st 1 (.l 0) (.l 1)⟩] [] []) ( .seq (.reg false [⟨none, .ld false 1 (.r 1)⟩, ⟨none, .ld true 5 (.r 7)⟩, ⟨none, .bsl 1 5 [.str [], .bool false, .int .u8 0, .int .i64 0, .nils] [(0, 5, (.l 0))]⟩, ⟨none, .app 5 (.l 2) (.l 0)⟩, ⟨none, .st 1 (.r 1) (.l 0)⟩] [] []) ( .reg false [⟨none, .mov (.r 6)⟩, ⟨none, .mov (.r 11)⟩, ⟨none, .st 1 (.r 2) (.l 1)⟩, ⟨none, .st 1 (.r 3) (.l 1)⟩] [] [])))))))))
def fn71'' : Fn := ⟨1, 19, [0, 2, 3, 4, 5, 6, 7, 8, 9, 10, 11, 12, 14, 15, 16, 19, 30, 37, 50], [.cell 1 1 false, .cell 2 1 false, .cell 3 1 false, .cell 4 1 false], .seq (.reg false [⟨none, .new [.nils]⟩, ⟨none, .new [.int .i64 0]⟩, ⟨none, .new [.int .i64 0]⟩, ⟨none, .new [.int .i64 0]⟩] [(1, 3), (2, 2), (3, 1), (4, 0)] []) ( .seq (.seq (.reg false [⟨none, .mov (.r 0)⟩, ⟨none, .hc (.v (.c (.d (.fn 98 [] [])))) [(.l 0)]⟩] [(12, 0)] []) ( .block 0 ( .seq (.fresh 1 (some 0) 5) ( .rf (.r 12) [13, 14] fn71A fn71B)))) ( .seq (.reg true [⟨none, .ld false 1 (.r 1)⟩, ⟨none, .ld false 1 (.r 2)⟩, ⟨none, .ld false 1 (.r 3)⟩, ⟨none, .st 1 (.r 1) (.l 2)⟩, ⟨none, .st 1 (.r 2) (.l 2)⟩, ⟨none, .st 1 (.r 3) (.l 2)⟩, ⟨none, .st 1 (.r 4) (.v (.c (.d (.int .i64 0))))⟩] [] [((.r 2), (.r 1)), ((.r 3), (.r 1)), ((.r 3), (.r 2))]) ( .ret)))⟩
theorem callN_yld2 {n id : Nat} {v v' : V} {H : Heap} {regs regs1 regs2 : List V} {p p' : Nat} {ps1 ps2 : List Nat} {asg body asg1 body1 asg2 body2 : I} {s1 s2 : St} {e : Ex} (ho : H[id]? = some (.loop true none regs [p, p'] asg body))
    (h1 : exec (zenv X n) n true asg ⟨put (put regs p v) p' v', H⟩ = some (.nrm, s1)) (ho1 : s1.heap[id]? = some (.loop true none regs1 ps1 asg1 body1))
    (h2 : exec (zenv X n) n true body ⟨s1.regs, s1.heap.set id (.loop false none regs1 ps1 asg1 body1)⟩ = some (e, s2)) (ho2 : s2.heap[id]? = some (.loop false none regs2 ps2 asg2 body2)) :
    callN X (n + 1) (.yld id) [v, v'] H = some (.c (.d (.bool (e == .nrm))), s2.heap.set id (.loop (e == .nrm) (if e == .nrm then none else some e) regs2 ps2 asg2 body2)) := by
  have : callN X (n + 1) (.yld id) [v, v'] H = match ob? H id with
      | some (.loop true none regs ps asg body) =>
        if [v, v'].length = ps.length then
          match exec (zenv X n) n true asg ⟨putAll regs ps [v, v'], H⟩ with
          | some (.nrm, s) =>
            match ob? s.heap id with
            | some (.loop true none regs1 ps1 asg1 body1) =>
              match exec (zenv X n) n true body ⟨s.regs, setOb s.heap id (.loop false none regs1 ps1 asg1 body1)⟩ with
              | some (e, s') =>
                match ob? s'.heap id with
                | some (.loop false none regs2 ps2 asg2 body2) =>
                  some (.c (.d (.bool (e == .nrm))), setOb s'.heap id (.loop (e == .nrm) (if e == .nrm then none else some e) regs2 ps2 asg2 body2))
                | _ => none
              | none => none
            | _ => none
          | _ => none
        else none
      | _ => none := rfl
  rw [this, ob_eq, ho]
  have hp : putAll regs [p, p'] [v, v'] = put (put regs p v) p' v' := rfl
  simp only [List.length_cons, List.length_nil, if_true, hp, h1, ob_eq, ho1, setOb_eq, h2, ho2]
abbrev fnLj : C := .fn 120 [] [.ptr 4 0 0]
abbrev regs71 (j : List Nat) : List V := [strV j, .c (.ptr 0 0 0), .c (.ptr 1 0 0), .c (.ptr 2 0 0), .c (.ptr 3 0 0), .any, .any, .any, .any, .any, .any, .any, .c fnLj, .any, .any, .any, .any, .any, .any]
def hp71 (j : List Nat) (l : List En) (used last err : Nat) (b : Bool) (e : Option Ex) : Heap := [.cells [.os 5 l.length 0 l.length 5 none] 0 false, .cells [.d (.int .i64 (used : Int))] 0 false, .cells [.d (.int .i64 (last : Int))] 0 false, .cells [.d (.int .i64 (err : Int))] 0 false, .cells [.d (.str j)] 0 false, .cells (eC l) l.length false, .loop b e (regs71 j) [13, 14] fn71A fn71B]
def newE (e : En) : En := { e with w := exD e.l }
theorem yl71 (hX : XOj m X) {N : Nat} {j a : List Nat} {l : List En} {used last k bh : Nat} {e : En} {st : Int} (hN : a.length + 600 ≤ N) (ha : a.length < 800000) (hb : ∀ c ∈ a, c < 256) (hl : l.length < 4096) (hla : last < 65521) (hr : readE a = (e, st, true)) (hw : isSet e.w e.l) (hwl : wfS e.l) (hel : e.l.length < 1000000) (hes : e.s.length ≤ a.length) (hc : e.chk = 0) (hk : lidxN 32 a = some k) (hka : k ≤ a.length) (hst : ((sumN last (a.take k) : Nat) : Int) = st) :
    ∃ t, callN X N (.yld 6) [strV a, i64 (bh : Int)] (hp71 j l used last 0 true none) = some (bl true, hp71 j (l ++ [newE e]) bh (sumN last (a.take k)) 0 true none ++ t) := by
  obtain ⟨N, rfl⟩ : ∃ M, N = M + 1 := ⟨N - 1, by omega⟩
  have h99 := hX.vc (k := 99) (F := fn99) rfl (f99 hX (N := N) (s := a) (by omega) ha)
  rw [hr] at h99
  have h48 := hX.vc (k := 48) (F := fn48) rfl (f48 hX (N := N) (s := e.s) (acc := e.acc) (r := e.r) (t := e.t) (w := e.w) (l := e.l) (by omega) (by omega) hw hwl hel)
  have hc' : chkE e.s e.acc e.r e.t e.l = 0 := hc
  rw [hc'] at h48
  have h79 := hX.vc (k := 79) (F := fn79) rfl (f79 hX (N := N) (by omega) hw hwl hel)
  have htk : (a.take k).length ≤ a.length := by rw [List.length_take]; omega
  have h74 := hX.vc (k := 74) (F := fn74) rfl (f74 hX (N := N) (s := a.take k) (a := last) (by omega) hla (fun c hcc => hb c (List.mem_of_mem_take hcc)) (by omega))
  have h100 : (zenv X N).prim 100 [.c (.d (.str a)), .c (.d (.int .u8 32))] = some (.c (.d (.int .i64 (k : Int)))) := by
    rw [zenv_pr]
    refine hX.prim ?_
    show (if (0 : Int) ≤ 32 ∧ a.length < 4611686018427387904 then some (I64 (oInt (lidxN (32 : Int).toNat a))) else none) = _
    rw [if_pos ⟨by omega, by omega⟩, show (32 : Int).toNat = 32 from rfl, hk]
    rfl
  have g1 : ((l.length : Int) == 4096) = false := by rw [beq_eq_false_iff_ne]; omega
  have g2 : (((sumN last (a.take k) : Nat) : Int) != st) = false := by rw [bne_eq_false_iff_eq]; exact hst
  have hel5 := eC_len l
  have htk5 : (eC l).take (l.length * 5) = eC l := List.take_of_length_le (by omega)
  have k1 : l.length + 1 ≤ 1073741824 := by omega
  have k2 : l.length + 1 < genK := by show l.length + 1 < 1000000; omega
  have g0 : ((0 : Int) != 0) = false := rfl
  have hap : eC (l ++ [newE e]) = eC l ++ [.d (.str e.s), .d (.bool e.acc), .d (.int .u8 (e.r : Int)), .d (.int .i64 e.t), .d (exD e.l)] := by rw [eC_snoc]; rfl
  have hll : (l ++ [newE e]).length = l.length + 1 := by simp
  unfold hp71
  rw [hap, hll]
  generalize sumN last (a.take k) = sm at *
  generalize eC l = ec at *
  generalize exD e.l = xd at *
  generalize l.length = n at *
  simp only [strV, i64, bl, En.ds, enC, List.map_cons, List.map_nil, Int.natCast_zero] at h99 h48 h74
  refine ⟨[.cells [.d (.str e.s), .d (.bool e.acc), .d (.int .u8 (e.r : Int)), .d (.int .i64 e.t), .d xd] 0 false, .cells [.d (.str e.s), .d (.bool e.acc), .d (.int .u8 (e.r : Int)), .d (.int .i64 e.t), .d xd] 0 false], ?_⟩
  refine (callN_yld2 (X := X) (n := N) (id := 6) (p := 13) (p' := 14) (regs := regs71 j) (regs1 := regs71 j) (regs2 := regs71 j) (ps1 := [13, 14]) (ps2 := [13, 14]) (asg := fn71A) (body := fn71B) (asg1 := fn71A) (body1 := fn71B) (asg2 := fn71A) (body2 := fn71B) (s1 := ⟨[strV j, .c (.ptr 0 0 0), .c (.ptr 1 0 0), .c (.ptr 2 0 0), .c (.ptr 3 0 0), strV a, i64 (bh : Int), .any, .any, .any, .any, .any, .c fnLj, strV a, i64 (bh : Int), .any, .any, .any, .any], [.cells [.os 5 n 0 n 5 none] 0 false, .cells [.d (.int .i64 (used : Int))] 0 false, .cells [.d (.int .i64 (last : Int))] 0 false, .cells [.d (.int .i64 ((0 : Nat) : Int))] 0 false, .cells [.d (.str j)] 0 false, .cells ec n false, .loop true none (regs71 j) [13, 14] fn71A fn71B]⟩)
    (s2 := ⟨[strV j, .c (.ptr 0 0 0), .c (.ptr 1 0 0), .c (.ptr 2 0 0), .c (.ptr 3 0 0), strV a, i64 (bh : Int), .c (.ptr 7 0 0), i64 st, bl true, i64 0, i64 (sm : Int), .c fnLj, strV a, i64 (bh : Int), bl false, bl false, bl false, bl false], [.cells [.os 5 (n + 1) 0 (n + 1) 5 none] 0 false, .cells [.d (.int .i64 (bh : Int))] 0 false, .cells [.d (.int .i64 (sm : Int))] 0 false, .cells [.d (.int .i64 ((0 : Nat) : Int))] 0 false, .cells [.d (.str j)] 0 false, .cells (ec ++ [.d (.str e.s), .d (.bool e.acc), .d (.int .u8 (e.r : Int)), .d (.int .i64 e.t), .d xd]) (n + 1) false, .loop false none (regs71 j) [13, 14] fn71A fn71B, .cells [.d (.str e.s), .d (.bool e.acc), .d (.int .u8 (e.r : Int)), .d (.int .i64 e.t), .d xd] 0 false, .cells [.d (.str e.s), .d (.bool e.acc), .d (.int .u8 (e.r : Int)), .d (.int .i64 e.t), .d xd] 0 false]⟩) (e := .nrm) rfl ?_ rfl ?_ rfl).trans rfl
  · simp only [fn71A, evs]
  · simp only [fn71B, ob?, strV, optNat, elems, lay, rep, splice, h99, h48, h79, h74, h100, g0, g1, g2, hka, hel5, htk5, k1, k2, Option.map_none, Option.map_some, Nat.zero_le, Nat.one_ne_zero, Nat.le_refl, Bool.not_true, List.take, List.drop, List.map_cons, List.map_nil, List.cons_append, List.nil_append, List.set_cons_zero, List.set_cons_succ, freeze_nil, reachV, reachC, ite_self, List.flatMap_cons, List.flatMap_nil, ↓sp_len, evs, Nat.reduceAdd]
end Mini
end Go.Proofs.YtgjlofpfbhioaaaGreatDoor
