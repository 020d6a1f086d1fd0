/-
  JournalsKnown: texts of the proof, part 17.
-/
import Derived.Test.YtgjlofpfbhioaaaGreatDoorLX15
namespace Go.Proofs.YtgjlofpfbhioaaaGreatDoor
namespace Mini
open Go
variable {m : Int} {X : Ctx}
def letB (c : Nat) : Bool := decide ((c : Int) ≥ 97) && decide ((c : Int) ≤ 122)
def digB (c : Nat) : Bool := decide ((c : Int) ≥ 48) && decide ((c : Int) ≤ 57)
def okB (c : Nat) : Bool := letB c || digB c || decide ((c : Int) = 45)
def nameB (s : List Nat) : Bool := decide (0 < s.length) && decide (s.length ≤ 32) && letB (s.getD 0 0) && s.all okB
def badN (s : List Nat) (j : Nat) : Bool := !letB (s.getD j 0) && (decide (j = 0) || (!digB (s.getD j 0) && !decide ((s.getD j 0 : Int) = 45)))
abbrev R70 (s : List Nat) (i : Nat) : List V := [.c (.d (.str s)), .any, .any, .any, .any, i64 (s.length : Int), i64 (i : Int), .any, .any]
theorem r70 {E : Env} {N : Nat} {s : List Nat} {j : Nat} (hj : j < s.length) (hs : s.length < 1000000) : exec E N false fn70L0 ⟨R70 s j, []⟩ = some (if badN s j then .ret else .nrm, ⟨[.c (.d (.str s)), if badN s j then bl false else .any, i64 (j : Int), bl (letB (s.getD j 0)), bl (digB (s.getD j 0)), i64 (s.length : Int), i64 ((if badN s j then j else j + 1 : Nat) : Int), bl true, bl (badN s j)], []⟩) := by
  have h1 : (j : Int) < (s.length : Int) := by omega
  have h2 := wrap_succ (k := j) (by omega)
  have h3 : s[j]? = some (s.getD j 0) := by rw [List.getD_eq_getElem?_getD, List.getElem?_eq_getElem hj]; rfl
  unfold badN letB digB
  generalize s.getD j 0 = c at *
  have z1 : ((j : Int) == 0) = decide (j = 0) := by rw [Bool.eq_iff_iff, beq_iff_eq, decide_eq_true_eq]; omega
  have z2 : ((c : Int) != 45) = !decide ((c : Int) = 45) := rfl
  generalize decide (j = 0) = zb at *
  generalize decide ((c : Int) = 45) = eb at *
  by_cases a1 : (c : Int) ≥ 97 <;> by_cases a2 : (c : Int) ≤ 122 <;> by_cases b1 : (c : Int) ≥ 48 <;> by_cases b2 : (c : Int) ≤ 57 <;> cases eb <;> cases zb <;> first
    | (exfalso; omega)
    | (simp only [fn70L0, R70, h1, h2, h3, z1, z2, a1, a2, b1, b2, Bool.and_true, Bool.and_false, Bool.not_true, Bool.not_false, evs])
theorem name_bad {s : List Nat} : (∀ j, j < s.length → badN s j = false) ↔ (s.all okB = true ∧ (s ≠ [] → letB (s.getD 0 0) = true)) := by
  constructor
  · intro h
    refine ⟨?_, fun hne => ?_⟩
    · rw [List.all_eq_true]
      intro c hc
      obtain ⟨i, hi, rfl⟩ := List.getElem_of_mem hc
      have := h i hi
      unfold badN at this
      rw [List.getD_eq_getElem?_getD, List.getElem?_eq_getElem hi, Option.getD_some] at this
      unfold okB
      generalize s[i] = c at *
      cases hl : letB c <;> cases hd : digB c <;> cases he : decide ((c : Int) = 45) <;> simp_all
    · have := h 0 (List.length_pos_iff.2 hne)
      unfold badN at this
      simpa using this
  · intro ⟨h1, h2⟩ j hj
    rw [List.all_eq_true] at h1
    have h3 := h1 _ (List.getElem_mem hj)
    unfold badN
    unfold okB at h3
    rw [List.getD_eq_getElem?_getD, List.getElem?_eq_getElem hj, Option.getD_some]
    by_cases hz : j = 0
    · subst hz
      have h4 := h2 (by intro h; rw [h] at hj; cases hj)
      rw [List.getD_eq_getElem?_getD, List.getElem?_eq_getElem hj, Option.getD_some] at h4
      rw [h4]; rfl
    · generalize s[j] = c at *
      cases hl : letB c <;> cases hd : digB c <;> cases he : decide ((c : Int) = 45) <;> simp_all
theorem f70 (hX : XOk m X) {N : Nat} {s : List Nat} (hN : s.length + 5 ≤ N) (hs : s.length < 1000000) : vcallN X N 70 [.c (.d (.str s))] = some (bl (nameB s)) := by
  obtain ⟨N, rfl⟩ : ∃ M, N = M + 1 := ⟨N - 1, by omega⟩
  have hF : fnsA 70 = some fn70' := rfl
  suffices h : ∃ (H : Heap), callN X (N + 1) (.d (.fn 70 [] [])) [.c (.d (.str s))] [] = some (bl (nameB s), H) by
    obtain ⟨H, h⟩ := h
    exact vcall_of h rfl
  rw [hX.fn hF]
  have hsc := iter_find (js := some [0, 5, 6]) (hl := 0) (body := exec (zenv X N) N false fn70L0) (fun j => badN s j = true) s.length (fun i => ⟨R70 s i, []⟩) (b := 0) (s1 := ⟨[.c (.d (.str s)), .any, .any, .any, .any, i64 (s.length : Int), i64 (s.length : Int), bl false, .any], []⟩) (Q := fun k s => nth s.regs 1 = bl false) (fuel := N) (by omega)
    (by
      intro j hj hp
      have hp : badN s j = false := Bool.eq_false_iff.2 hp
      have := r70 (E := zenv X N) (N := N) hj hs
      rw [hp] at this
      exact ⟨_, this, gc_le (Nat.le_refl 0)⟩)
    (by simp only [fn70L0, R70, evs])
    (by
      intro j hj hp
      have := r70 (E := zenv X N) (N := N) hj hs
      rw [hp] at this
      exact ⟨_, this, rfl⟩)
  simp only [R70, i64, bl, Int.natCast_zero] at hsc
  rcases hsc with ⟨hno, hit⟩ | ⟨k, s', hk, hp, hno, hq, hit⟩
  · obtain ⟨g1, g2⟩ := name_bad.1 fun j hj => Bool.eq_false_iff.2 (hno j hj)
    by_cases c1 : (s.length : Int) > 0
    · have g3 := g2 (by intro h; rw [h] at c1; simp at c1)
      have g4 : 0 < s.length := by omega
      by_cases c2 : (s.length : Int) ≤ 32
      · have : nameB s = true := by unfold nameB; rw [g1, g3, decide_eq_true g4, decide_eq_true (by omega)]; rfl
        rw [this]
        refine ⟨[], (rf_fin _ _ _ _ _ _ _ _ _ (by rfl)).trans ?_⟩
        simp only [hit, c1, c2, evs, Nat.reduceAdd, Nat.reduceBEq, Nat.reduceSub]
      · have : nameB s = false := by unfold nameB; rw [decide_eq_false (p := s.length ≤ 32) (by omega)]; simp
        rw [this]
        refine ⟨[], (rf_fin _ _ _ _ _ _ _ _ _ (by rfl)).trans ?_⟩
        simp only [hit, c1, c2, evs, Nat.reduceAdd, Nat.reduceBEq, Nat.reduceSub]
    · have : nameB s = false := by unfold nameB; rw [decide_eq_false (p := 0 < s.length) (by omega)]; rfl
      rw [this]
      refine ⟨[], (rf_fin _ _ _ _ _ _ _ _ _ (by rfl)).trans ?_⟩
      simp only [hit, c1, evs, Nat.reduceAdd, Nat.reduceBEq, Nat.reduceSub]
  · have : nameB s = false := by
      rw [Bool.eq_false_iff]
      intro h
      unfold nameB at h
      simp only [Bool.and_eq_true] at h
      have := name_bad.2 ⟨h.2, fun _ => h.1.2⟩ k hk
      rw [this] at hp; cases hp
    rw [this]
    refine ⟨s'.heap, (rf_fin _ _ _ _ _ _ _ _ _ (by rfl)).trans ?_⟩
    obtain ⟨r, H⟩ := s'
    simp only at hq
    simp only [hit, hq, evs, Nat.reduceAdd, Nat.reduceBEq, Nat.reduceSub]
end Mini
end Go.Proofs.YtgjlofpfbhioaaaGreatDoor
namespace Go.Proofs.YtgjlofpfbhioaaaGreatDoor
namespace Mini
open Go
variable {m : Int} {X : Ctx}
def anC (s : List Nat) (w : D) (b1 b2 b3 : Bool) : List C := [.d (.str s), .d w, .d (.bool b1), .d (.bool b2), .d (.bool b3)]
def chkA (s : List Nat) (u : List Oid) : Nat := if nameB s = false then 18 else if chkS u ≠ 0 then chkS u else if u.length = 0 then 17 else 0
end Mini
end Go.Proofs.YtgjlofpfbhioaaaGreatDoor
namespace Go.Proofs.YtgjlofpfbhioaaaGreatDoor
namespace Mini
open Go
variable {m : Int} {X : Ctx}
def strV (s : List Nat) : V := .c (.d (.str s))
theorem decF_len : ∀ f n, (decF f n).length ≤ f + 1 ∧ 0 < (decF f n).length
  | 0, n => ⟨Nat.le_refl _, Nat.zero_lt_one⟩
  | f + 1, n => by
    unfold decF
    split
    · simp
    · rw [List.length_append]
      have := decF_len f (n / 10)
      simp only [List.length_cons, List.length_nil]
      omega
theorem decF_byte : ∀ f n, ∀ b ∈ decF f n, b < 256
  | 0, n, b, h => by
    simp only [decF, List.mem_singleton] at h
    omega
  | f + 1, n, b, h => by
    unfold decF at h
    split at h
    · simp only [List.mem_singleton] at h; omega
    · rw [List.mem_append, List.mem_singleton] at h
      rcases h with h | h
      · exact decF_byte f _ b h
      · omega
theorem bytesOf_of : ∀ {s : List Nat}, (∀ b ∈ s, b < 256) → bytesOf (ofBytes s) = some s
  | [], _ => rfl
  | b :: s, h => by
    have ih := bytesOf_of (s := s) (fun x hx => h x (List.mem_cons_of_mem _ hx))
    have h1 := h b List.mem_cons_self
    unfold bytesOf ofBytes at ih ⊢
    rw [List.map_cons, mapO, ih]
    simp only [byteOf, Int.ofNat_eq_natCast, Int.toNat_natCast, Nat.mod_eq_of_lt h1]
end Mini
end Go.Proofs.YtgjlofpfbhioaaaGreatDoor
namespace Go.Proofs.YtgjlofpfbhioaaaGreatDoor
namespace Mini
open Go
variable {m : Int} {X : Ctx}
theorem zenv_pr {X : Ctx} {n : Nat} : (zenv X n).prim = X.prim := rfl
def textO (o : Oid) : List Nat := joinN [46] ((arcsO o).map decN)
theorem joinN_len (sep : List Nat) (b : Nat) : ∀ l : List (List Nat), (∀ x ∈ l, x.length ≤ b) → (joinN sep l).length ≤ l.length * (b + sep.length)
  | [], _ => by simp [joinN]
  | [x], h => by
    have := h x (by simp)
    simp only [joinN, List.length_cons, List.length_nil]
    omega
  | x :: y :: l, h => by
    have h1 := h x (by simp)
    have h2 := joinN_len sep b (y :: l) (fun z hz => h z (List.mem_cons_of_mem _ hz))
    simp only [joinN, List.length_append, List.length_cons] at h2 ⊢
    have : (l.length + 1 + 1) * (b + sep.length) = (l.length + 1) * (b + sep.length) + (b + sep.length) := Nat.succ_mul _ _
    omega
end Mini
end Go.Proofs.YtgjlofpfbhioaaaGreatDoor
namespace Go.Proofs.YtgjlofpfbhioaaaGreatDoor
namespace Mini
open Go
variable {m : Int} {X : Ctx}
theorem wrap_u32 {n : Nat} (h : n < 4294967296) : IntKind.u32.wrap (n : Int) = (n : Int) := by
  simp only [IntKind.wrap, IntKind.bits, IntKind.signed]
  simp
  omega
theorem wrap_u8 {n : Nat} (h : n < 256) : IntKind.u8.wrap (n : Int) = (n : Int) := by
  simp only [IntKind.wrap, IntKind.bits, IntKind.signed]
  simp
  omega
theorem r87 {E : Env} {N : Nat} {n : Nat} {s : List Nat} (hn : n < 4294967296) (hs : s.length < 1000) : exec E N false fn87L0 ⟨[.c (.d (u32D n)), .any, strV s, bl true, .any], []⟩ = some (.nrm, ⟨[.c (.d (u32D (n / 10))), .any, strV ((48 + n % 10) :: s), bl (decide (((n / 10 : Nat) : Int) > 0)), bl true], [.cells [.d (.int .u8 ((48 + n % 10 : Nat) : Int))] 0 false]⟩) := by
  have h1 : (n : Int).tmod 10 = ((n % 10 : Nat) : Int) := (Int.ofNat_tmod n 10).symm
  have h2 : (n : Int).tdiv 10 = ((n / 10 : Nat) : Int) := (Int.ofNat_tdiv n 10).symm
  have h3 : IntKind.u32.wrap (48 + ((n % 10 : Nat) : Int)) = ((48 + n % 10 : Nat) : Int) := by
    rw [← wrap_u32 (n := 48 + n % 10) (by omega)]; rfl
  have h4 : IntKind.u8.wrap ((48 + n % 10 : Nat) : Int) = ((48 + n % 10 : Nat) : Int) := wrap_u8 (by omega)
  have h5 : IntKind.u32.wrap ((n / 10 : Nat) : Int) = ((n / 10 : Nat) : Int) := wrap_u32 (by omega)
  have h6 : bytesOf [C.d (.int .u8 ((48 + n % 10 : Nat) : Int))] = some [48 + n % 10] := bytesOf_of (s := [48 + n % 10]) (fun b hb => by rw [List.mem_singleton] at hb; omega)
  have h7 : 1 + s.length ≤ 1073741824 := by omega
  have h8 : ((10 : Int) = 0) = False := by simp
  generalize 48 + n % 10 = d at *
  generalize n / 10 = q at *
  simp only [fn87L0, strV, u32D, ob?, h1, h2, h3, h4, h5, h6, h7, h8, binStr, elems, lay, rep, splice, List.take, List.drop, List.map_cons, List.map_nil, evs, Nat.reduceLeDiff]
theorem it87 {E : Env} {N : Nat} : ∀ (f n : Nat) (s : List Nat) (fuel : Nat), n < 10 ^ (f + 1) → n < 4294967296 → s.length + f < 1000 → f + 2 ≤ fuel → iter (some [0, 2, 3]) 0 (exec E N false fn87L0) fuel ⟨[.c (.d (u32D n)), .any, strV s, bl true, .any], []⟩ = some (.exit 0, ⟨[.c (.d (u32D 0)), .any, strV (decF f n ++ s), bl false, bl false], []⟩) := by
  have hend : ∀ (s : List Nat), exec E N false fn87L0 ⟨[.c (.d (u32D 0)), .any, strV s, bl false, .any], []⟩ = some (.exit 0, ⟨[.c (.d (u32D 0)), .any, strV s, bl false, bl false], []⟩) := fun s => by
    simp only [fn87L0, evs]
  intro f
  induction f with
  | zero =>
    intro n s fuel hn hn2 hs hf
    obtain ⟨fuel, rfl⟩ : ∃ k, fuel = k + 2 := ⟨fuel - 2, by omega⟩
    have hq : n / 10 = 0 := by omega
    have hr := r87 (E := E) (N := N) hn2 (s := s) (by omega)
    rw [hq] at hr
    rw [iter_step hr]
    have ht : tidy 0 (some [0, 2, 3]) ⟨[.c (.d (u32D 0)), .any, strV ((48 + n % 10) :: s), bl (decide (((0 : Nat) : Int) > 0)), bl true], [.cells [.d (.int .u8 ((48 + n % 10 : Nat) : Int))] 0 false]⟩ = ⟨[.c (.d (u32D 0)), .any, strV ((48 + n % 10) :: s), bl false, .any], []⟩ := gc_yes rfl rfl
    rw [ht, iter_stop (hend _)]
    rfl
  | succ f ih =>
    intro n s fuel hn hn2 hs hf
    obtain ⟨fuel, rfl⟩ : ∃ k, fuel = k + 1 := ⟨fuel - 1, by omega⟩
    have hr := r87 (E := E) (N := N) hn2 (s := s) (by omega)
    rw [iter_step hr]
    by_cases hq : n < 10
    · have hq0 : n / 10 = 0 := by omega
      obtain ⟨fuel, rfl⟩ : ∃ k, fuel = k + 1 := ⟨fuel - 1, by omega⟩
      rw [hq0]
      have ht : tidy 0 (some [0, 2, 3]) ⟨[.c (.d (u32D 0)), .any, strV ((48 + n % 10) :: s), bl (decide (((0 : Nat) : Int) > 0)), bl true], [.cells [.d (.int .u8 ((48 + n % 10 : Nat) : Int))] 0 false]⟩ = ⟨[.c (.d (u32D 0)), .any, strV ((48 + n % 10) :: s), bl false, .any], []⟩ := gc_yes rfl rfl
      rw [ht, iter_stop (hend _), decF, if_pos hq, Nat.mod_eq_of_lt hq]
      rfl
    · have hd : decide (((n / 10 : Nat) : Int) > 0) = true := decide_eq_true (by omega)
      rw [hd]
      have ht : tidy 0 (some [0, 2, 3]) ⟨[.c (.d (u32D (n / 10))), .any, strV ((48 + n % 10) :: s), bl true, bl true], [.cells [.d (.int .u8 ((48 + n % 10 : Nat) : Int))] 0 false]⟩ = ⟨[.c (.d (u32D (n / 10))), .any, strV ((48 + n % 10) :: s), bl true, .any], []⟩ := gc_yes rfl rfl
      rw [ht, ih (n / 10) _ fuel (by rw [Nat.pow_succ] at hn; omega) (by omega) (by simp only [List.length_cons]; omega) (by omega), decF, if_neg hq, List.append_assoc]
      rfl
theorem f87 (hX : XOk m X) {N : Nat} (hN : 40 ≤ N) {n : Nat} (hn : n < 4294967296) : vcallN X N 87 [.c (.d (u32D n))] = some (strV (decN n)) := by
  obtain ⟨N, rfl⟩ : ∃ M, N = M + 1 := ⟨N - 1, by omega⟩
  have hF : fnsA 87 = some fn87' := rfl
  have hit := it87 (E := zenv X N) (N := N) 20 n [] N (Nat.lt_of_lt_of_le hn (by decide)) hn (by simp) (by omega)
  refine vcall_of (r := strV (decN n)) (H := []) ?_ rfl
  rw [hX.fn hF]
  refine (rf_fin _ _ _ _ _ _ _ _ _ (by rfl)).trans ?_
  simp only [strV, bl, List.append_nil] at hit ⊢
  simp only [decN, hit, evs, Nat.reduceAdd, Nat.reduceBEq, Nat.reduceSub]
end Mini
end Go.Proofs.YtgjlofpfbhioaaaGreatDoor
namespace Go.Proofs.YtgjlofpfbhioaaaGreatDoor
namespace Mini
open Go
variable {m : Int} {X : Ctx}
theorem joinN_snoc (sep x : List Nat) : ∀ l : List (List Nat), joinN sep (l ++ [x]) = if l = [] then x else joinN sep l ++ (sep ++ x)
  | [] => rfl
  | [y] => by simp [joinN]
  | y :: z :: l => by
    have ih := joinN_snoc sep x (z :: l)
    rw [if_neg (by simp)] at ih ⊢
    rw [List.cons_append, List.cons_append, joinN, ← List.cons_append, ih, joinN]
    simp only [List.append_assoc]
def pre58 (o : Oid) (i : Nat) : List Nat := joinN [46] (((arcsO o).take i).map decN)
theorem pre58_len (o : Oid) (i : Nat) (h : i ≤ 16) : (pre58 o i).length ≤ 352 := by
  have := joinN_len [46] 21 (((arcsO o).take i).map decN) (fun x hx => by
    obtain ⟨n, _, rfl⟩ := List.mem_map.1 hx
    exact (decF_len 20 n).1)
  have h2 : (((arcsO o).take i).map decN).length ≤ i := by rw [List.length_map, List.length_take]; omega
  simp only [List.length_cons, List.length_nil] at this
  unfold pre58
  omega
theorem f58 (hX : XOk m X) {N : Nat} (hN : 60 ≤ N) {o : Oid} (ho : wfO o) (hn : o.1 ≤ 16) : vcallN X N 58 [.agg (oC o)] = some (strV (textO o)) := by
  obtain ⟨N, rfl⟩ : ∃ M, N = M + 1 := ⟨N - 1, by omega⟩
  have hF : fnsA 58 = some fn58' := rfl
  have hal := arcsO_len ho
  rw [Nat.min_eq_left hn] at hal
  have h0 : (oC o).take 1 = [.d (.int .u8 (o.1 : Int))] := oC_n (o := o)
  have hw : IntKind.i64.wrap (o.1 : Int) = (o.1 : Int) := wrap_nat (by omega)
  have hit : iter (some [1, 3, 4]) 1 (exec (zenv X N) N false fn58L0) N ⟨[.any, .c (.ptr 0 0 0), .any, strV (pre58 o 0), i64 ((0 : Nat) : Int), .any, .any], [.cells (oC o) 0 false]⟩ = some (.exit 0, ⟨[.any, .c (.ptr 0 0 0), .any, strV (pre58 o o.1), i64 (o.1 : Int), bl false, .any], [.cells (oC o) 0 false]⟩) := by
    refine iter_to (fun i => ⟨[.any, .c (.ptr 0 0 0), .any, strV (pre58 o i), i64 (i : Int), .any, .any], [.cells (oC o) 0 false]⟩) (e := .exit 0) (fun h => by cases h) o.1 0 N (fun j _ hj => ?_) ?_ (by omega)
    · have hjn : j < o.1 := by omega
      have hx : o.2[j]? = some (o.2.getD j 0) := by rw [List.getD_eq_getElem?_getD, List.getElem?_eq_getElem (by rw [ho.2.1]; omega)]; rfl
      have q1 := oC_arc hx
      have hxb : o.2.getD j 0 < 4294967296 := by
        rw [List.getD_eq_getElem?_getD, List.getElem?_eq_getElem (by rw [ho.2.1]; omega)]
        exact ho.2.2 _ (List.getElem_mem _)
      have q2 := hX.vc (k := 87) (F := fn87) rfl (f87 hX (N := N) (by omega) hxb)
      have q3 : pre58 o (j + 1) = if j = 0 then decN (o.2.getD j 0) else pre58 o j ++ ([46] ++ decN (o.2.getD j 0)) := by
        unfold pre58
        have hxa : (arcsO o)[j]? = some (o.2.getD j 0) := by rw [arcsO, List.getElem?_take_of_lt hjn, hx]
        have hta : (arcsO o).take (j + 1) = (arcsO o).take j ++ [o.2.getD j 0] := by
          rw [List.take_add_one, hxa]; rfl
        rw [hta, List.map_append, List.map_cons, List.map_nil, joinN_snoc]
        by_cases hz : j = 0
        · subst hz; simp
        · have hne : ¬ ((arcsO o).take j).map decN = [] := by
            intro h
            have := congrArg List.length h
            rw [List.length_map, List.length_take, hal, List.length_nil] at this
            omega
          rw [if_neg hne, if_neg hz]
      have q4 := pre58_len o j (by omega)
      have q5 := (decF_len 20 (o.2.getD j 0)).1
      have q7 := wrap_succ (k := j) (by omega)
      have q8 : (j : Int) < (o.1 : Int) := by omega
      have q9 : j < 16 := by omega
      have q10 : pre58 o 0 = [] := rfl
      simp only [u32D, strV] at q1 q2
      refine ⟨⟨[.any, .c (.ptr 0 0 0), .any, strV (pre58 o (j + 1)), i64 ((j + 1 : Nat) : Int), bl true, bl (decide (j ≠ 0))], [.cells (oC o) 0 false]⟩, ?_, gc_le (Nat.le_refl 1)⟩
      rw [q3]
      change (decN (o.2.getD j 0)).length ≤ 20 + 1 at q5
      generalize o.2.getD j 0 = x at *
      by_cases hz : j = 0
      · subst hz
        have g1 : ¬ ((0 : Nat) : Int) > 0 := by simp
        have g2 : 0 + (decN x).length ≤ 1073741824 := by omega
        simp only [Nat.add_zero] at q1
        simp only [fn58L0, strV, ob?, h0, hw, q1, q2, q7, q8, q10, g1, binStr, show (decN x).length ≤ 1073741824 by omega, List.drop_zero, ne_eq, not_true_eq_false, evs, Nat.reduceLT]
      · have g1 : (j : Int) > 0 := by omega
        have g2 : (pre58 o j).length + 1 ≤ 1073741824 := by omega
        have g3 : (pre58 o j).length + 1 + (decN x).length ≤ 1073741824 := by omega
        simp only [fn58L0, strV, ob?, h0, hw, hz, q1, q2, q7, q8, q9, g1, g2, g3, binStr, List.length_append, List.append_assoc, List.drop_zero, ne_eq, not_false_eq_true, evs]
    · rw [Nat.zero_add]
      simp only [fn58L0, ob?, h0, hw, List.drop_zero, evs]
  refine vcall_of (r := strV (textO o)) (H := [.cells (oC o) 0 false]) ?_ rfl
  rw [hX.fn hF]
  refine (rf_fin _ _ _ _ _ _ _ _ _ (by rfl)).trans ?_
  have ht : pre58 o o.1 = textO o := by
    unfold pre58 textO
    rw [List.take_of_length_le (by omega)]
  have q10 : pre58 o 0 = [] := rfl
  rw [ht, q10] at hit
  simp only [strV, bl, i64, Int.natCast_zero] at hit ⊢
  simp only [hit, evs, Nat.reduceAdd, Nat.reduceBEq, Nat.reduceSub]
end Mini
end Go.Proofs.YtgjlofpfbhioaaaGreatDoor
namespace Go.Proofs.YtgjlofpfbhioaaaGreatDoor
namespace Mini
open Go
variable {m : Int} {X : Ctx}
theorem numN_snoc (s : List Nat) (b : Nat) : numN 0 (s ++ [b]) = 10 * numN 0 s + (b - 48) := by simp [numN]
end Mini
end Go.Proofs.YtgjlofpfbhioaaaGreatDoor
namespace Go.Proofs.YtgjlofpfbhioaaaGreatDoor
namespace Mini
open Go
theorem splitN_neq (c : Nat) : ∀ s : List Nat, splitN c s ≠ []
  | [] => by simp [splitN]
  | x :: xs => by
    unfold splitN
    split
    · simp
    · split <;> simp
end Mini
end Go.Proofs.YtgjlofpfbhioaaaGreatDoor
namespace Go.Proofs.YtgjlofpfbhioaaaGreatDoor
namespace Mini
open Go
variable {m : Int} {X : Ctx}
theorem flD_len {α : Type} {f : α → List D} {k : Nat} : ∀ {l : List α}, (∀ x ∈ l, (f x).length = k) → (l.flatMap f).length = l.length * k
  | [], _ => by simp
  | x :: l, h => by
    rw [List.flatMap_cons, List.length_append, h x List.mem_cons_self, flD_len (fun y hy => h y (List.mem_cons_of_mem _ hy)), List.length_cons, Nat.succ_mul]
    omega
structure An where
  s : List Nat
  w : D
  l : List Oid
  e : Bool
  nm : Bool
  na : Bool
end Mini
end Go.Proofs.YtgjlofpfbhioaaaGreatDoor
namespace Go.Proofs.YtgjlofpfbhioaaaGreatDoor
namespace Mini
open Go
variable {m : Int} {X : Ctx}
theorem beqS (s t : List Nat) : (s == t) = decide (s = t) := by
  by_cases h : s = t
  · subst h; simp
  · rw [decide_eq_false h]; simpa using h
end Mini
end Go.Proofs.YtgjlofpfbhioaaaGreatDoor
namespace Go.Proofs.YtgjlofpfbhioaaaGreatDoor
namespace Mini
open Go
variable {m : Int} {X : Ctx}
def setT (l : List Oid) : List Nat := joinN [44] (l.map textO)
theorem textO_len (o : Oid) (h : o.1 ≤ 16) : (textO o).length ≤ 352 := by
  have := joinN_len [46] 21 ((arcsO o).map decN) (fun x hx => by
    obtain ⟨n, _, rfl⟩ := List.mem_map.1 hx
    exact (decF_len 20 n).1)
  have h2 : ((arcsO o).map decN).length ≤ 16 := by rw [List.length_map, arcsO, List.length_take]; omega
  simp only [List.length_cons, List.length_nil] at this
  unfold textO
  omega
theorem joinN_mem (sep : List Nat) {c : Nat} : ∀ {l : List (List Nat)}, c ∈ joinN sep l → c ∈ sep ∨ ∃ x ∈ l, c ∈ x
  | [], h => by simp [joinN] at h
  | [x], h => .inr ⟨x, by simp, by simpa [joinN] using h⟩
  | x :: y :: l, h => by
    rw [joinN, List.mem_append, List.mem_append] at h
    rcases h with (h | h) | h
    · exact .inr ⟨x, by simp, h⟩
    · exact .inl h
    · rcases joinN_mem sep h with h | ⟨z, h1, h2⟩
      · exact .inl h
      · exact .inr ⟨z, List.mem_cons_of_mem _ h1, h2⟩
theorem textO_byte (o : Oid) : ∀ c ∈ textO o, c < 256 := fun c hc => by
  rcases joinN_mem [46] hc with h | ⟨x, h1, h2⟩
  · rw [List.mem_singleton] at h; omega
  · obtain ⟨n, _, rfl⟩ := List.mem_map.1 h1
    exact decF_byte 20 n c h2
theorem setT_byte (l : List Oid) : ∀ c ∈ setT l, c < 256 := fun c hc => by
  rcases joinN_mem [44] hc with h | ⟨x, h1, h2⟩
  · rw [List.mem_singleton] at h; omega
  · obtain ⟨o, _, rfl⟩ := List.mem_map.1 h1
    exact textO_byte o c h2
theorem setT_len (l : List Oid) (h : ∀ o ∈ l, o.1 ≤ 16) : (setT l).length ≤ l.length * 353 := by
  have := joinN_len [44] 352 (l.map textO) (fun x hx => by
    obtain ⟨o, ho, rfl⟩ := List.mem_map.1 hx
    exact textO_len o (h o ho))
  simpa [setT] using this
theorem nameB_ok {s : List Nat} (h : nameB s = true) : 0 < s.length ∧ s.length ≤ 32 ∧ ∀ c ∈ s, okB c = true := by
  simp only [nameB, Bool.and_eq_true, decide_eq_true_eq, List.all_eq_true] at h
  exact ⟨h.1.1.1, h.1.1.2, h.2⟩
theorem okB_byte {c : Nat} (h : okB c = true) : c < 256 := by
  simp only [okB, letB, digB, Bool.or_eq_true, Bool.and_eq_true, decide_eq_true_eq] at h
  omega
theorem firstE_zero {f : Nat → Nat} {n : Nat} (h : firstE f n = 0) : ∀ j, j < n → f j = 0 := by
  rcases first_lt (fun j => f j ≠ 0) n with h1 | ⟨k, h1, h2, h3⟩
  · exact fun j hj => Decidable.not_not.1 (h1 j hj)
  · rw [firstE_hit f h2 h3 n h1] at h; exact absurd h h2
theorem chkS_len {l : List Oid} (h : chkS l = 0) : l.length ≤ 256 := by
  unfold chkS at h
  split at h
  · cases h
  · omega
theorem chkS_ok {l : List Oid} (h : chkS l = 0) : ∀ o ∈ l, chkO o = 0 := fun o ho => by
  have hl := chkS_len h
  obtain ⟨i, hi, rfl⟩ := mem_getD ho
  unfold chkS at h
  rw [if_neg (by omega)] at h
  have := firstE_zero h i hi
  unfold errAt at this
  by_cases hz : chkO (l.getD i o0) = 0
  · exact hz
  · rw [if_pos hz] at this; exact this
theorem chkO_n {o : Oid} (h : chkO o = 0) : 2 ≤ o.1 ∧ o.1 ≤ 16 := by
  unfold chkO at h
  split at h
  · cases h
  · omega
end Mini
end Go.Proofs.YtgjlofpfbhioaaaGreatDoor
namespace Go.Proofs.YtgjlofpfbhioaaaGreatDoor
namespace Mini
open Go
variable {m : Int} {X : Ctx}
theorem setT_succ (l : List Oid) {j : Nat} (hj : j < l.length) : setT (l.take (j + 1)) = setT (l.take j) ++ (if j = 0 then [] else [44]) ++ textO (l.getD j o0) := by
  unfold setT
  have hx : l[j]? = some (l.getD j o0) := by rw [List.getD_eq_getElem?_getD, List.getElem?_eq_getElem hj]; rfl
  rw [List.take_add_one, hx, Option.toList_some, List.map_append, List.map_cons, List.map_nil, joinN_snoc]
  by_cases hz : j = 0
  · subst hz; simp [joinN]
  · have : ¬ (l.take j).map textO = [] := by
      intro h
      have := congrArg List.length h
      rw [List.length_map, List.length_take, List.length_nil] at this
      omega
    rw [if_neg this, if_neg hz, List.append_assoc]
theorem setT_take (l : List Oid) (h : ∀ o ∈ l, o.1 ≤ 16) (j : Nat) : (setT (l.take j)).length ≤ l.length * 353 := by
  have := setT_len (l.take j) (fun o ho => h o (List.mem_of_mem_take ho))
  rw [List.length_take] at this
  have h2 : min j l.length * 353 ≤ l.length * 353 := Nat.mul_le_mul_right _ (Nat.min_le_right _ _)
  exact Nat.le_trans this h2
end Mini
end Go.Proofs.YtgjlofpfbhioaaaGreatDoor
namespace Go.Proofs.YtgjlofpfbhioaaaGreatDoor
namespace Mini
open Go
variable {m : Int} {X : Ctx}
def decB (s : List Nat) : Bool := decide (s = [48]) || (decide (s ≠ []) && decide (s.getD 0 0 ≠ 48) && s.all isDig)
theorem digs_is (b : Nat) : digs.contains b = isDig b := by
  rw [Bool.eq_iff_iff]
  simp only [digs, isDig, List.contains_cons, List.contains_nil, Bool.or_false, Bool.or_eq_true, beq_iff_eq, Bool.and_eq_true, Nat.ble_eq]
  omega
theorem dropWhile_nil {α : Type} (p : α → Bool) : ∀ l : List α, l.dropWhile p = [] ↔ l.all p = true
  | [] => by simp
  | x :: l => by
    cases h : p x
    · simp [List.dropWhile, h]
    · simp only [List.dropWhile, h, List.all_cons, Bool.true_and]
      exact dropWhile_nil p l
theorem dropWhile_sub {α : Type} (p : α → Bool) : ∀ (l : List α), (∀ x ∈ l.dropWhile p, x ∈ l)
  | [] => by simp
  | x :: l => by
    cases h : p x
    · simp [List.dropWhile, h]
    · simp only [List.dropWhile, h]
      exact fun y hy => List.mem_cons_of_mem _ (dropWhile_sub p l y hy)
theorem dropWhile_head {α : Type} (p : α → Bool) : ∀ (l : List α) (x : α) (t : List α), l.dropWhile p = x :: t → p x = false
  | [], _, _, h => by simp at h
  | y :: l, x, t, h => by
    cases hy : p y
    · simp only [List.dropWhile, hy, List.cons.injEq] at h
      rw [← h.1]; exact hy
    · simp only [List.dropWhile, hy] at h
      exact dropWhile_head p l x t h
theorem trim_nil (s : List Nat) : (trimN digs s == []) = s.all isDig := by
  have hp : (fun b => digs.contains b) = isDig := funext digs_is
  unfold trimN
  have hp2 : (digs.contains ·) = isDig := hp
  rw [hp2]
  rw [Bool.eq_iff_iff, beq_iff_eq, dropWhile_nil]
  constructor
  · intro h
    have h1 : s.reverse.dropWhile isDig = [] := by
      cases hd : s.reverse.dropWhile isDig with
      | nil => rfl
      | cons x t =>
        have hx := dropWhile_head isDig _ _ _ hd
        rw [hd, List.all_eq_true] at h
        have := h x (by simp)
        rw [hx] at this; cases this
    have h2 := (dropWhile_nil isDig _).1 h1
    rw [List.all_eq_true] at h2 ⊢
    exact fun x hx => h2 x (List.mem_reverse.2 hx)
  · intro h
    rw [List.all_eq_true] at h ⊢
    exact fun x hx => h x (List.mem_reverse.1 (dropWhile_sub isDig _ x (List.mem_reverse.1 hx)))
theorem f118 (hX : XOk m X) {N : Nat} (hN : 1 ≤ N) {s : List Nat} (hs : s.length < 4294967281) : vcallN X N 118 [strV s] = some (bl (decB s)) := by
  obtain ⟨N, rfl⟩ : ∃ M, N = M + 1 := ⟨N - 1, by omega⟩
  refine vcall_of (r := bl (decB s)) (H := []) ?_ rfl
  rw [hX.fn (F := fn118) rfl]
  refine (rf_fin _ _ _ _ _ _ _ _ _ (by rfl)).trans ?_
  by_cases c1 : s = [48]
  · subst c1
    have g1 : (([48] : List Nat) == [48]) = true := rfl
    have g2 : decB [48] = true := rfl
    simp only [strV, binStr, g1, g2, evs, Nat.reduceSub]
  have g1 : (s == [48]) = false := by rw [beqS]; exact decide_eq_false c1
  by_cases c2 : s = []
  · subst c2
    have g2 : (([] : List Nat) == []) = true := rfl
    have g3 : decB [] = false := rfl
    simp only [strV, binStr, g1, g2, g3, Bool.not_true, evs, Nat.reduceSub]
  have g2 : (s == []) = false := by rw [beqS]; exact decide_eq_false c2
  have hp : 0 < s.length := by
    rcases Nat.eq_zero_or_pos s.length with h | h
    · exact absurd (List.length_eq_zero_iff.1 h) c2
    · exact h
  have h3 : s[0]? = some (s.getD 0 0) := by rw [List.getD_eq_getElem?_getD, List.getElem?_eq_getElem hp]; rfl
  by_cases c3 : s.getD 0 0 = 48
  · have g3 : decB s = false := by
      unfold decB
      rw [decide_eq_false c1, show decide (s.getD 0 0 ≠ 48) = false from by rw [c3]; rfl]
      simp
    rw [c3] at h3
    have g4 : (((48 : Nat) : Int) != 48) = false := rfl
    simp only [strV, binStr, g1, g2, g3, g4, h3, Bool.not_false, evs, Nat.reduceSub]
  · have g3 : decB s = s.all isDig := by
      unfold decB
      rw [decide_eq_false c1, decide_eq_true (show s ≠ [] from c2), decide_eq_true (show s.getD 0 0 ≠ 48 from c3)]
      rfl
    have g4 : ((s.getD 0 0 : Int) != 48) = true := by rw [bne_iff_ne]; omega
    have hpc : (zenv X N).prim 151 [.c (.d (.str s)), .c (.d (.str [48, 49, 50, 51, 52, 53, 54, 55, 56, 57]))] = some (.c (.d (.str (trimN digs s)))) := by
      rw [zenv_pr]
      refine hX.prim _ _ _ ?_
      have e : prim0 151 [.c (.d (.str s)), .c (.d (.str [48, 49, 50, 51, 52, 53, 54, 55, 56, 57]))] = if digs = digs ∧ s.length < 4294967281 then some (Str (trimN digs s)) else none := rfl
      rw [e, if_pos ⟨rfl, hs⟩]
    have g5 := trim_nil s
    simp only [strV, binStr, g1, g2, g3, g4, g5, h3, hpc, Bool.not_false, evs, Nat.reduceSub]
theorem f117 (hX : XOk m X) {N : Nat} (hN : 2 ≤ N) {s : List Nat} {H : Heap} (hs : s.length < 4294967281) : callN X N (.d (.fn 117 [] [])) [strV s] H = some (bl (!decB s), H) := by
  obtain ⟨N, rfl⟩ : ∃ M, N = M + 1 := ⟨N - 1, by omega⟩
  have h1 := hX.vc (k := 118) (F := fn118) rfl (f118 hX (N := N) (by omega) hs)
  rw [hX.fn (F := fn117) rfl]
  refine (rf_fin _ _ _ _ _ _ _ _ _ (by rfl)).trans ?_
  simp only [strV, bl] at h1
  simp only [strV, h1, evs, Nat.reduceSub]
def slS (ps : List (List Nat)) : D := .sl (ps.map D.str) ps.length
theorem slS_at (ps : List (List Nat)) {i : Nat} (h : i < ps.length) : ixac 1 i (.c (.d (slS ps))) = some (.c (.d (.ip (.str (ps.getD i []) :: (ps.drop (i + 1)).map D.str))), []) := by
  have h2 : (ps.map D.str).drop i = .str (ps.getD i []) :: (ps.drop (i + 1)).map D.str := by
    rw [List.getD_eq_getElem?_getD, List.getElem?_eq_getElem h, ← List.map_drop, List.drop_eq_getElem_cons h]
    rfl
  rw [slS, ixac, if_pos ⟨h, by simp; omega⟩, Nat.mul_one, h2]
theorem slS_len (ps : List (List Nat)) : lenc (.c (.d (slS ps))) = some (.c (.d (.int .i64 (ps.length : Int))), []) := rfl
theorem f150 (hX : XOk m X) {N : Nat} {ps : List (List Nat)} (hN : ps.length + 10 ≤ N) (hs : ∀ x ∈ ps, x.length < 4294967281) (hl : ps.length < 1000000000) : ∃ z : Int, vcallN X N 150 [.c (.d (slS ps)), .c (.d (.fn 117 [] []))] = some (i64 z) ∧ decide (z ≥ 0) = !ps.all decB := by
  obtain ⟨N, rfl⟩ : ∃ M, N = M + 1 := ⟨N - 1, by omega⟩
  have hF : fnsA 150 = some fn150' := rfl
  have hlw := slS_len ps
  have hmem : ∀ j, j < ps.length → ps.getD j [] ∈ ps := fun j hj => by
    rw [List.getD_eq_getElem?_getD, List.getElem?_eq_getElem hj]
    exact List.getElem_mem hj
  have hsc := iter_find (js := some [0, 1, 4, 5]) (hl := 0) (body := exec (zenv X N) N false fn150L0) (fun j => decB (ps.getD j []) = false) ps.length (fun i => ⟨[.c (.d (slS ps)), .c (.d (.fn 117 [] [])), .any, .any, i64 (ps.length : Int), i64 (i : Int), .any, .any], []⟩) (b := 0) (s1 := ⟨[.c (.d (slS ps)), .c (.d (.fn 117 [] [])), .any, .any, i64 (ps.length : Int), i64 (ps.length : Int), bl false, .any], []⟩) (Q := fun k s => s = ⟨[.c (.d (slS ps)), .c (.d (.fn 117 [] [])), i64 (k : Int), i64 (k : Int), i64 (ps.length : Int), i64 (k : Int), bl true, bl true], []⟩) (fuel := N) (by omega)
    (by
      intro j hj hp
      have hp : decB (ps.getD j []) = true := by simpa using hp
      have h1 := slS_at ps hj
      have h2 := f117 hX (N := N) (by omega) (H := []) (hs _ (hmem j hj))
      have h4 : (j : Int) < (ps.length : Int) := by omega
      have h5 := wrap_succ (k := j) (by omega)
      rw [hp] at h2
      simp only [strV] at h2
      refine ⟨⟨[.c (.d (slS ps)), .c (.d (.fn 117 [] [])), .any, i64 (j : Int), i64 (ps.length : Int), i64 ((j + 1 : Nat) : Int), bl true, bl false], []⟩, ?_, gc_le (Nat.le_refl 0)⟩
      simp only [fn150L0, h1, h2, h4, h5, Bool.not_true, List.take, List.map_cons, List.map_nil, ↓sp_ixa, evs])
    (by simp only [fn150L0, evs])
    (by
      intro j hj hp
      have h1 := slS_at ps hj
      have h2 := f117 hX (N := N) (by omega) (H := []) (hs _ (hmem j hj))
      have h4 : (j : Int) < (ps.length : Int) := by omega
      rw [hp] at h2
      simp only [strV] at h2
      refine ⟨_, ?_, rfl⟩
      simp only [fn150L0, h1, h2, h4, Bool.not_false, List.take, List.map_cons, List.map_nil, ↓sp_ixa, evs])
  simp only [i64, bl, Int.natCast_zero] at hsc
  rcases hsc with ⟨hno, hit⟩ | ⟨k, s', hk, hp, hno, rfl, hit⟩
  · refine ⟨-1, ?_, ?_⟩
    · refine vcall_of (r := i64 (-1)) (H := []) ?_ rfl
      rw [hX.fn hF]
      refine (rf_fin _ _ _ _ _ _ _ _ _ (by rfl)).trans ?_
      simp only [hlw, hit, ↓sp_len, evs, Nat.reduceAdd, Nat.reduceBEq, Nat.reduceSub]
    · have : ps.all decB = true := by
        rw [List.all_eq_true]
        intro x hx
        obtain ⟨i, hi, rfl⟩ := List.getElem_of_mem hx
        have := hno i hi
        rw [List.getD_eq_getElem?_getD, List.getElem?_eq_getElem hi, Option.getD_some] at this
        simpa using this
      rw [this]; rfl
  · refine ⟨(k : Int), ?_, ?_⟩
    · refine vcall_of (r := i64 (k : Int)) (H := []) ?_ rfl
      rw [hX.fn hF]
      refine (rf_fin _ _ _ _ _ _ _ _ _ (by rfl)).trans ?_
      simp only [hlw, hit, ↓sp_len, evs, Nat.reduceAdd, Nat.reduceBEq, Nat.reduceSub]
    · have : ps.all decB = false := by
        rw [List.all_eq_false]
        exact ⟨_, hmem k hk, by rw [hp]; simp⟩
      rw [this]
      simp
theorem f116 (hX : XOk m X) {N : Nat} {ps : List (List Nat)} (hN : ps.length + 11 ≤ N) (hs : ∀ x ∈ ps, x.length < 4294967281) (hl : ps.length < 1000000000) : vcallN X N 116 [.c (.d (slS ps)), .c (.d (.fn 117 [] []))] = some (bl (!ps.all decB)) := by
  obtain ⟨N, rfl⟩ : ∃ M, N = M + 1 := ⟨N - 1, by omega⟩
  obtain ⟨z, h1, h2⟩ := f150 hX (N := N) (by omega) hs hl
  have h1 := hX.vc (k := 150) (F := fn150) rfl h1
  refine vcall_of (r := bl (!ps.all decB)) (H := []) ?_ rfl
  rw [hX.fn (F := fn116) rfl]
  refine (rf_fin _ _ _ _ _ _ _ _ _ (by rfl)).trans ?_
  simp only [i64] at h1
  simp only [h1, h2, evs, Nat.reduceAdd, Nat.reduceSub]
end Mini
end Go.Proofs.YtgjlofpfbhioaaaGreatDoor
namespace Go.Proofs.YtgjlofpfbhioaaaGreatDoor
namespace Mini
open Go
variable {m : Int} {X : Ctx}
def valP (x : List Nat) : Nat := if numN 0 x ≤ 4294967295 then numN 0 x else 4294967295
theorem valP_lt (x : List Nat) : valP x < 4294967296 := by unfold valP; split <;> omega
def arrP (ps : List (List Nat)) : Nat → List Nat
  | 0 => List.replicate 16 0
  | j + 1 => if j < 16 then (arrP ps j).set j (valP (ps.getD j [])) else arrP ps j
def largeP (ps : List (List Nat)) : Nat → Bool
  | 0 => false
  | j + 1 => largeP ps j || decide (4294967295 < numN 0 (ps.getD j []))
theorem arrP_len (ps : List (List Nat)) : ∀ j, (arrP ps j).length = 16
  | 0 => rfl
  | j + 1 => by
    unfold arrP
    split
    · rw [List.length_set, arrP_len ps j]
    · exact arrP_len ps j
theorem arrP_lt (ps : List (List Nat)) : ∀ j, ∀ x ∈ arrP ps j, x < 4294967296
  | 0 => by
    intro x hx
    simp only [arrP, List.mem_replicate] at hx
    omega
  | j + 1 => by
    unfold arrP
    split
    · intro x hx
      rcases List.mem_or_eq_of_mem_set hx with h | rfl
      · exact arrP_lt ps j x h
      · exact valP_lt _
    · exact arrP_lt ps j
theorem oC_set (n : Nat) (l : List Nat) {j v : Nat} (hj : j < l.length) : splice (oC (n, l)) (1 + j) [.d (.int .u32 (v : Int))] = oC (n, l.set j v) := by
  unfold splice oC oD
  simp only [List.map_cons, List.map_map]
  rw [Nat.add_comm 1 j, List.take_succ_cons, show j + 1 + [C.d (D.int .u32 (v : Int))].length = (j + 1) + 1 by simp, List.drop_succ_cons, List.map_set, List.set_eq_take_append_cons_drop, if_pos (by simpa using hj)]
  simp [u32D]
def parseO (s : List Nat) : Oid × Nat :=
  if (splitN 46 s).all decB = false then (o0, 6)
  else if 16 < (splitN 46 s).length then (o0, 3)
  else if largeP (splitN 46 s) (splitN 46 s).length = true then (o0, 3)
  else if chkO ((splitN 46 s).length, arrP (splitN 46 s) (splitN 46 s).length) ≠ 0 then (o0, chkO ((splitN 46 s).length, arrP (splitN 46 s) (splitN 46 s).length))
  else (((splitN 46 s).length, arrP (splitN 46 s) (splitN 46 s).length), 0)
theorem splitN_len (c : Nat) : ∀ s : List Nat, (splitN c s).length ≤ s.length + 1 ∧ ∀ x ∈ splitN c s, x.length ≤ s.length
  | [] => by simp [splitN]
  | y :: s => by
    obtain ⟨h1, h2⟩ := splitN_len c s
    unfold splitN
    split
    · refine ⟨by simp only [List.length_cons]; omega, fun x hx => ?_⟩
      rcases List.mem_cons.1 hx with rfl | hx
      · simp
      · have := h2 x hx; simp only [List.length_cons]; omega
    · cases hs : splitN c s with
      | nil => exact ⟨by simp, fun x hx => by simp only [List.mem_singleton] at hx; subst hx; simp⟩
      | cons a l =>
        rw [hs] at h1 h2
        refine ⟨by simp only [List.length_cons] at h1 ⊢; omega, fun x hx => ?_⟩
        rcases List.mem_cons.1 hx with rfl | hx
        · have := h2 a List.mem_cons_self; simp only [List.length_cons]; omega
        · have := h2 x (List.mem_cons_of_mem _ hx); simp only [List.length_cons]; omega
abbrev R94 (ps : List (List Nat)) (j : Nat) : List V := [.any, .c (.ptr 0 0 0), .any, .any, .c (.ptr 1 0 0), bl (largeP ps j), .any, .any, .any, .any, .any, .any, .c (.d (slS ps)), i64 (ps.length : Int), i64 (j : Int), .any, .any, .any, .any, .any]
theorem decB_dig {s : List Nat} (h : decB s = true) : s.all isDig = true ∧ s.isEmpty = false := by
  unfold decB at h
  simp only [Bool.or_eq_true, Bool.and_eq_true, decide_eq_true_eq] at h
  rcases h with rfl | ⟨⟨h1, _⟩, h2⟩
  · exact ⟨rfl, rfl⟩
  · exact ⟨h2, by cases s with | nil => exact absurd rfl h1 | cons _ _ => rfl⟩
set_option maxHeartbeats 1000000 in
theorem r94 (hX : XOk m X) {N : Nat} (hN : 10 ≤ N) {ps : List (List Nat)} {n j : Nat} (hj : j < ps.length) (hlen : ps.length < 100000000) (hs : (ps.getD j []).length < 100000000) (hp : decB (ps.getD j []) = true) :
    ∃ s', exec (zenv X N) N false fn94L0 ⟨R94 ps j, [.cells zC 0 false, .cells (oC (n, arrP ps j)) 0 false]⟩ = some (.nrm, s') ∧ tidy 2 (some [1, 4, 5, 12, 13, 14]) s' = ⟨R94 ps (j + 1), [.cells zC 0 false, .cells (oC (n, arrP ps (j + 1))) 0 false]⟩ := by
  have h1 := slS_at ps hj
  have h2 := hX.vc (k := 118) (F := fn118) rfl (f118 hX (N := N) (by omega) (s := ps.getD j []) (by omega))
  have h4 : (j : Int) < (ps.length : Int) := by omega
  have h5 := wrap_succ (k := j) (by omega)
  have hlA := arrP_len ps j
  have hL : largeP ps (j + 1) = (largeP ps j || decide (4294967295 < numN 0 (ps.getD j []))) := rfl
  have hA : arrP ps (j + 1) = if j < 16 then (arrP ps j).set j (valP (ps.getD j [])) else arrP ps j := rfl
  have hR : R94 ps (j + 1) = [.any, .c (.ptr 0 0 0), .any, .any, .c (.ptr 1 0 0), bl (largeP ps j || decide (4294967295 < numN 0 (ps.getD j []))), .any, .any, .any, .any, .any, .any, .c (.d (slS ps)), i64 (ps.length : Int), i64 ((j + 1 : Nat) : Int), .any, .any, .any, .any, .any] := by rw [← hL]
  have hv := valP_lt (ps.getD j [])
  have hpc : (zenv X N).prim 119 [.c (.d (.str (ps.getD j []))), .c (.d (.int .i64 10)), .c (.d (.int .i64 32))] = some (.tup [.c (.d (.int .u64 (valP (ps.getD j []) : Int))), .c (.d (if 4294967295 < numN 0 (ps.getD j []) then .ifc else .nili))]) := by
    rw [zenv_pr]
    refine hX.prim _ _ _ ?_
    have e : ∀ x : List Nat, prim0 119 [.c (.d (.str x)), .c (.d (.int .i64 10)), .c (.d (.int .i64 32))] = if x.length < 281474976710656 then (if (x.all isDig && !x.isEmpty) = true then some (if numN 0 x ≤ 4294967295 then .tup [U64 (numN 0 x), .c (.d .nili)] else .tup [U64 4294967295, .c (.d .ifc)]) else none) else none := fun _ => rfl
    rw [e]
    unfold valP
    obtain ⟨d1, d2⟩ := decB_dig hp
    rw [if_pos (by omega), d1, d2, if_pos (by rfl)]
    by_cases hb : numN 0 (ps.getD j []) ≤ 4294967295
    · rw [if_pos hb, if_pos hb, if_neg (by omega)]
    · rw [if_neg hb, if_neg hb, if_pos (by omega)]; rfl
  rw [hp] at h2
  rw [hR, hA]
  clear hR
  unfold R94
  simp only [strV, bl] at h2
  have hw : IntKind.u32.wrap (valP (ps.getD j []) : Int) = (valP (ps.getD j []) : Int) := wrap_u32 hv
  have hset := fun hj16 : j < 16 => oC_set n (arrP ps j) (j := j) (v := valP (ps.getD j [])) (by rw [hlA]; exact hj16)
  have hlo : (oC (n, arrP ps j)).length = 17 := by simp [oC, oD, hlA]
  generalize valP (ps.getD j []) = v at *
  generalize largeP ps j = lg at *
  by_cases hb : 4294967295 < numN 0 (ps.getD j [])
  · rw [if_pos hb] at hpc
    rw [decide_eq_true hb]
    by_cases h16 : j < 16
    · have h16' : (j : Int) < 16 := by omega
      have hset := hset h16
      rw [if_pos h16]
      refine ⟨⟨[.any, .c (.ptr 0 0 0), .any, .any, .c (.ptr 1 0 0), bl (lg || true), i64 (j : Int), strV (ps.getD j []), .c (.d (.int .u64 (v : Int))), .c (.d .ifc), .any, .any, .c (.d (slS ps)), i64 (ps.length : Int), i64 ((j + 1 : Nat) : Int), bl true, bl false, bl true, .any, .any], [.cells zC 0 false, .cells (oC (n, (arrP ps j).set j v)) 0 false]⟩, ?_, gc_le (Nat.le_refl 2)⟩
      have h17 : 1 + j + 1 ≤ 17 := by omega
      cases lg <;>
        simp only [fn94L0, ob?, strV, h1, h2, h4, h5, h16, h16', h17, hpc, hw, hset, hlo, Bool.not_true, List.take, List.map_cons, List.map_nil, List.set_cons_zero, List.set_cons_succ, freeze_nil, reachV, reachC, ite_self, List.flatMap_cons, List.flatMap_nil, ↓sp_ixa, evs]
    · have h16' : ¬ (j : Int) < 16 := by omega
      rw [if_neg h16]
      refine ⟨⟨[.any, .c (.ptr 0 0 0), .any, .any, .c (.ptr 1 0 0), bl (lg || true), i64 (j : Int), strV (ps.getD j []), .c (.d (.int .u64 (v : Int))), .c (.d .ifc), .any, .any, .c (.d (slS ps)), i64 (ps.length : Int), i64 ((j + 1 : Nat) : Int), bl true, bl false, bl false, .any, .any], [.cells zC 0 false, .cells (oC (n, arrP ps j)) 0 false]⟩, ?_, gc_le (Nat.le_refl 2)⟩
      cases lg <;>
        simp only [fn94L0, strV, h1, h2, h4, h5, h16', hpc, Bool.not_true, List.take, List.map_cons, List.map_nil, freeze_nil, reachV, reachC, ite_self, List.flatMap_cons, List.flatMap_nil, ↓sp_ixa, evs]
  · rw [if_neg hb] at hpc
    rw [decide_eq_false hb]
    by_cases h16 : j < 16
    · have h16' : (j : Int) < 16 := by omega
      have hset := hset h16
      rw [if_pos h16]
      refine ⟨⟨[.any, .c (.ptr 0 0 0), .any, .any, .c (.ptr 1 0 0), bl (lg || false), i64 (j : Int), strV (ps.getD j []), .c (.d (.int .u64 (v : Int))), .c (.d .nili), .any, .any, .c (.d (slS ps)), i64 (ps.length : Int), i64 ((j + 1 : Nat) : Int), bl true, bl false, bl true, .any, .any], [.cells zC 0 false, .cells (oC (n, (arrP ps j).set j v)) 0 false]⟩, ?_, gc_le (Nat.le_refl 2)⟩
      have h17 : 1 + j + 1 ≤ 17 := by omega
      cases lg <;>
        simp only [fn94L0, ob?, strV, h1, h2, h4, h5, h16, h16', h17, hpc, hw, hset, hlo, Bool.not_true, List.take, List.map_cons, List.map_nil, List.set_cons_zero, List.set_cons_succ, freeze_nil, reachV, reachC, ite_self, List.flatMap_cons, List.flatMap_nil, ↓sp_ixa, evs]
    · have h16' : ¬ (j : Int) < 16 := by omega
      rw [if_neg h16]
      refine ⟨⟨[.any, .c (.ptr 0 0 0), .any, .any, .c (.ptr 1 0 0), bl (lg || false), i64 (j : Int), strV (ps.getD j []), .c (.d (.int .u64 (v : Int))), .c (.d .nili), .any, .any, .c (.d (slS ps)), i64 (ps.length : Int), i64 ((j + 1 : Nat) : Int), bl true, bl false, bl false, .any, .any], [.cells zC 0 false, .cells (oC (n, arrP ps j)) 0 false]⟩, ?_, gc_le (Nat.le_refl 2)⟩
      cases lg <;>
        simp only [fn94L0, strV, h1, h2, h4, h5, h16', hpc, Bool.not_true, List.take, List.map_cons, List.map_nil, freeze_nil, reachV, reachC, ite_self, List.flatMap_cons, List.flatMap_nil, ↓sp_ixa, evs]
theorem f94 (hX : XOk m X) {N : Nat} {s : List Nat} (hN : s.length + 60 ≤ N) (hs : s.length < 10000000) : vcallN X N 94 [strV s] = some (.tup [.agg (oC (parseO s).1), i64 ((parseO s).2 : Nat)]) := by
  obtain ⟨N, rfl⟩ : ∃ M, N = M + 1 := ⟨N - 1, by omega⟩
  have hF : fnsA 94 = some fn94' := rfl
  obtain ⟨hl1, hl2⟩ := splitN_len 46 s
  have hpc : (zenv X N).prim 92 [.c (.d (.str s)), .c (.d (.str [46]))] = some (.c (.d (slS (splitN 46 s)))) := by
    rw [zenv_pr]
    refine hX.prim _ _ _ ?_
    have e : ∀ x : List Nat, prim0 92 [.c (.d (.str x)), .c (.d (.str [46]))] = if x.length < 4294967281 then some (.c (.d (.sl ((splitN 46 x).map .str) (splitN 46 x).length))) else none := fun _ => rfl
    rw [e, if_pos (by omega)]
    rfl
  unfold parseO
  generalize hps : splitN 46 s = ps at *
  have h116 := hX.vc (k := 116) (F := fn116) rfl (f116 hX (N := N) (ps := ps) (by omega) (fun x hx => by have := hl2 x hx; omega) (by omega))
  have hlw := slS_len ps
  suffices h : ∃ H, callN X (N + 1) (.d (.fn 94 [] [])) [strV s] [] = some (.tup [.agg (oC (if ps.all decB = false then (o0, 6) else if 16 < ps.length then (o0, 3) else if largeP ps ps.length = true then (o0, 3) else if chkO (ps.length, arrP ps ps.length) ≠ 0 then (o0, chkO (ps.length, arrP ps ps.length)) else ((ps.length, arrP ps ps.length), 0)).1), i64 ((if ps.all decB = false then (o0, 6) else if 16 < ps.length then (o0, 3) else if largeP ps ps.length = true then (o0, 3) else if chkO (ps.length, arrP ps ps.length) ≠ 0 then (o0, chkO (ps.length, arrP ps ps.length)) else ((ps.length, arrP ps ps.length), 0)).2 : Nat)], H) by
    obtain ⟨H, h⟩ := h
    refine vcall_of h ?_
    simp only [deepV, mapO, deepV1, i64]
    rw [show ∀ (H : Heap) (o : Oid), mapO (deepC H deepMax) (oC o) = some (oD o) from fun H o => mapO_d H _ _]
    rfl
  rw [hX.fn hF]
  have hz0 : oC o0 = zC := rfl
  have hdp : ∀ H : Heap, deepC H deepMax (.d (slS ps)) = some (slS ps) := fun _ => rfl
  have hmem : ∀ j, j < ps.length → ps.getD j [] ∈ ps := fun j hj => by
    rw [List.getD_eq_getElem?_getD, List.getElem?_eq_getElem hj]
    exact List.getElem_mem hj
  have hwu : IntKind.u8.wrap (ps.length : Int) = ((ps.length % 256 : Nat) : Int) := by
    simp only [IntKind.wrap, IntKind.bits, IntKind.signed]
    simp
  have hsc := iter_find (js := some [1, 4, 5, 12, 13, 14]) (hl := 2) (body := exec (zenv X N) N false fn94L0) (fun j => decB (ps.getD j []) = false) ps.length (fun i => ⟨R94 ps i, [.cells zC 0 false, .cells (oC (ps.length % 256, arrP ps i)) 0 false]⟩) (b := 0) (s1 := ⟨[.any, .c (.ptr 0 0 0), .any, .any, .c (.ptr 1 0 0), bl (largeP ps ps.length), .any, .any, .any, .any, .any, .any, .c (.d (slS ps)), i64 (ps.length : Int), i64 (ps.length : Int), bl false, .any, .any, .any, .any], [.cells zC 0 false, .cells (oC (ps.length % 256, arrP ps ps.length)) 0 false]⟩) (Q := fun k s => ∃ o, nth s.regs 1 = .c (.ptr 0 0 0) ∧ nth s.regs 2 = i64 6 ∧ s.heap = [.cells zC 0 false, o]) (fuel := N) (by omega)
    (by
      intro j hj hp
      exact r94 hX (by omega) hj (by omega) (by have := hl2 _ (hmem j hj); omega) (by simpa using hp))
    (by simp only [fn94L0, R94, evs])
    (by
      intro j hj hp
      have h1 := slS_at ps hj
      have h2 := hX.vc (k := 118) (F := fn118) rfl (f118 hX (N := N) (by omega) (s := ps.getD j []) (by have := hl2 _ (hmem j hj); omega))
      have h4 : (j : Int) < (ps.length : Int) := by omega
      rw [hp] at h2
      simp only [strV, bl] at h2
      refine ⟨⟨[.any, .c (.ptr 0 0 0), i64 6, .any, .c (.ptr 1 0 0), bl (largeP ps j), i64 (j : Int), strV (ps.getD j []), .any, .any, .any, .any, .c (.d (slS ps)), i64 (ps.length : Int), i64 (j : Int), bl true, bl true, .any, .any, .any], [.cells zC 0 false, .cells (oC (ps.length % 256, arrP ps j)) 0 false]⟩, ?_, _, rfl, rfl, rfl⟩
      simp only [fn94L0, R94, ob?, strV, h1, h2, h4, lay, splice, Bool.not_false, List.take, List.drop, List.map_cons, List.map_nil, List.set_cons_zero, ↓sp_ixa, evs, Nat.reduceAdd, Nat.reduceLeDiff])
  simp only [i64, bl, R94, Int.natCast_zero] at hsc h116
  have hlay : lay [.d (.int .u8 0), .d (.int .u32 0), .d (.int .u32 0), .d (.int .u32 0), .d (.int .u32 0), .d (.int .u32 0), .d (.int .u32 0), .d (.int .u32 0), .d (.int .u32 0), .d (.int .u32 0), .d (.int .u32 0), .d (.int .u32 0), .d (.int .u32 0), .d (.int .u32 0), .d (.int .u32 0), .d (.int .u32 0), .d (.int .u32 0)] [(0, 1, .c (.d (.int .u8 ((ps.length % 256 : Nat) : Int))))] = some (oC (ps.length % 256, arrP ps 0)) := rfl
  have hlo0 : (oC (ps.length % 256, arrP ps 0)).length = 17 := rfl
  by_cases ca : ps.all decB = true
  · rw [ca] at h116
    rw [if_neg (by simp [ca])]
    simp only [Bool.not_true] at h116
    rcases hsc with ⟨hno, hit⟩ | ⟨k, s', hk, hp, hno, _, _⟩
    case inr =>
      exfalso
      rw [List.all_eq_true] at ca
      have := ca _ (hmem k hk)
      rw [hp] at this; cases this
    have h00 : largeP ps 0 = false := rfl
    rw [h00] at hit
    by_cases c16 : 16 < ps.length
    · rw [if_pos c16]
      have c16' : (ps.length : Int) > 16 := by omega
      refine ⟨[.cells zC 0 false], (rf_fin _ _ _ _ _ _ _ _ _ (by rfl)).trans ?_⟩
      simp only [ob?, strV, hpc, h116, hlw, hdp, c16', hz0, lay, splice, Bool.not_false, List.take, List.drop, List.map_cons, List.map_nil, List.set_cons_zero, freeze_nil, reachV, reachC, ite_self, List.flatMap_cons, List.flatMap_nil, Int.cast_ofNat_Int, ↓sp_len, evs, Nat.reduceAdd, Nat.reduceLeDiff, Nat.reduceSub]
    · have c16' : ¬ (ps.length : Int) > 16 := by omega
      rw [if_neg c16]
      have hm : ps.length % 256 = ps.length := Nat.mod_eq_of_lt (by omega)
      rw [hm] at hit hlay hwu hlo0
      cases hL : largeP ps ps.length
      · rw [hL] at hit
        rw [if_neg (by simp)]
        have hwf : wfO (ps.length, arrP ps ps.length) := ⟨by simp only; omega, arrP_len ps _, arrP_lt ps _⟩
        have h53 := hX.vc (k := 53) (F := fn53) rfl (chkO_ok (hX.fns _ _ rfl) hwf (N := N) (by omega))
        have hlo := oC_len hwf
        have hdD : mapO (deepC [Ob.cells zC 0 false, .cells (oC (ps.length, arrP ps ps.length)) 0 false] deepMax) (oC (ps.length, arrP ps ps.length)) = some (oD (ps.length, arrP ps ps.length)) := mapO_d _ _ _
        have hd : List.map C.d (oD (ps.length, arrP ps ps.length)) = oC (ps.length, arrP ps ps.length) := rfl
        have hsp : splice zC 0 (oC (ps.length, arrP ps ps.length)) = oC (ps.length, arrP ps ps.length) := by
          unfold splice
          rw [List.take_zero, List.nil_append, Nat.zero_add, hlo, List.drop_of_length_le (Nat.le_refl 17), List.append_nil]
        generalize (ps.length, arrP ps ps.length) = oo at *
        simp only [i64] at h53
        by_cases hck : chkO oo = 0
        · rw [if_neg (by rw [hck]; simp)]
          rw [hck] at h53
          refine ⟨[.cells (oC oo) 0 false, .cells (oC oo) 0 false], (rf_fin _ _ _ _ _ _ _ _ _ (by rfl)).trans ?_⟩
          simp only [ob?, strV, hpc, h116, hlw, hdp, c16', hwu, hlay, hlo0, hit, h53, hlo, hd, hdD, hsp, Bool.not_false, List.drop_zero, List.take_of_length_le (Nat.le_of_eq hlo), List.map_cons, List.map_nil, List.set_cons_zero, freeze_nil, reachV, reachC, ite_self, List.flatMap_cons, List.flatMap_nil, Int.cast_ofNat_Int, ↓sp_len, evs, Nat.reduceAdd, Nat.reduceLeDiff, Nat.reduceBEq, Nat.reduceSub]
        · rw [if_pos hck]
          have g1 : ((chkO oo : Int) != 0) = true := by rw [bne_iff_ne]; omega
          refine ⟨[.cells zC 0 false, .cells (oC oo) 0 false], (rf_fin _ _ _ _ _ _ _ _ _ (by rfl)).trans ?_⟩
          simp only [ob?, strV, hpc, h116, hlw, hdp, c16', hz0, hwu, hlay, hlo0, hit, h53, g1, hlo, hd, hdD, lay, splice, Bool.not_false, List.take, List.drop, List.take_of_length_le (Nat.le_of_eq hlo), List.map_cons, List.map_nil, List.set_cons_zero, freeze_nil, reachV, reachC, ite_self, List.flatMap_cons, List.flatMap_nil, ↓sp_len, evs, Nat.reduceAdd, Nat.reduceLeDiff, Nat.reduceBEq, Nat.reduceSub]
      · rw [hL] at hit
        rw [if_pos rfl]
        refine ⟨[.cells zC 0 false, .cells (oC (ps.length, arrP ps ps.length)) 0 false], (rf_fin _ _ _ _ _ _ _ _ _ (by rfl)).trans ?_⟩
        simp only [ob?, strV, hpc, h116, hlw, hdp, c16', hz0, hwu, hlay, hlo0, hit, lay, splice, Bool.not_false, List.take, List.drop, List.map_cons, List.map_nil, List.set_cons_zero, freeze_nil, reachV, reachC, ite_self, List.flatMap_cons, List.flatMap_nil, Int.cast_ofNat_Int, ↓sp_len, evs, Nat.reduceAdd, Nat.reduceLeDiff, Nat.reduceBEq, Nat.reduceSub]
  · have ca : ps.all decB = false := by simpa using ca
    rw [ca] at h116
    rw [if_pos ca]
    simp only [Bool.not_false] at h116
    rcases hsc with ⟨hno, hit⟩ | ⟨k, s', hk, hp, hno, ⟨o, hq1, hq2, hqh⟩, hit⟩
    · exfalso
      rw [List.all_eq_false] at ca
      obtain ⟨x, hx, hxb⟩ := ca
      obtain ⟨i, hi, rfl⟩ := List.getElem_of_mem hx
      have := hno i hi
      rw [List.getD_eq_getElem?_getD, List.getElem?_eq_getElem hi, Option.getD_some] at this
      exact this (by simpa using hxb)
    · obtain ⟨r, H⟩ := s'
      simp only at hq1 hq2 hqh
      subst hqh
      have h00 : largeP ps 0 = false := rfl
      rw [h00] at hit
      refine ⟨[.cells zC 0 false, o], (rf_fin _ _ _ _ _ _ _ _ _ (by rfl)).trans ?_⟩
      simp only [ob?, strV, hpc, h116, hlw, hdp, hz0, hwu, hlay, hlo0, hit, hq1, hq2, Bool.not_true, List.take, List.drop, List.map_cons, List.map_nil, freeze_nil, reachV, reachC, ite_self, List.flatMap_cons, List.flatMap_nil, Int.cast_ofNat_Int, ↓sp_len, evs, Nat.reduceAdd, Nat.reduceBEq, Nat.reduceSub]
end Mini
end Go.Proofs.YtgjlofpfbhioaaaGreatDoor
namespace Go.Proofs.YtgjlofpfbhioaaaGreatDoor
namespace Mini
open Go
variable {m : Int} {X : Ctx}
theorem callN_fnc {X : Ctx} {n : Nat} {f : FuncId} {F : Fn} {first caps : List C} {args : List V} {H : Heap} (h : X.fns f = some F) : callN X (n + 1) (.fn f first caps) args H = runFn (zenv X n) n F (first.map .c ++ args ++ caps.map .c) H := by
  have : callN X (n + 1) (.fn f first caps) args H = match X.fns f with
      | some F => runFn (zenv X n) n F (first.map .c ++ args ++ caps.map .c) H
      | none => X.hprim f (first.map .c ++ args ++ caps.map .c) H := rfl
  rw [this, h]
end Mini
end Go.Proofs.YtgjlofpfbhioaaaGreatDoor
namespace Go.Proofs.YtgjlofpfbhioaaaGreatDoor
namespace Mini
open Go
variable {m : Int} {X : Ctx}
theorem idx_none {c : Nat} : ∀ {s : List Nat}, idxN c s = none → splitN c s = [s]
  | [], _ => rfl
  | x :: s, h => by
    unfold idxN at h
    split at h
    · cases h
    · rename_i hx
      cases hi : idxN c s with
      | none => rw [splitN, if_neg hx, idx_none hi]
      | some k => rw [hi] at h; cases h
theorem idx_some {c : Nat} : ∀ {s : List Nat} {k : Nat}, idxN c s = some k → k < s.length ∧ splitN c s = s.take k :: splitN c (s.drop (k + 1))
  | [], _, h => by cases h
  | x :: s, k, h => by
    unfold idxN at h
    split at h
    · rename_i hx
      cases h
      exact ⟨by simp, by rw [splitN, if_pos hx]; rfl⟩
    · rename_i hx
      cases hi : idxN c s with
      | none => rw [hi] at h; cases h
      | some i =>
        rw [hi] at h
        obtain ⟨h1, h2⟩ := idx_some hi
        simp only [Option.some.injEq] at h
        subst h
        refine ⟨by simp only [List.length_cons]; omega, ?_⟩
        rw [splitN, if_neg hx, h2]
        rfl
def restN (c : Nat) (s : List Nat) : Nat → List Nat
  | 0 => s
  | j + 1 => match idxN c (restN c s j) with
    | some i => (restN c s j).drop (i + 1)
    | none => []
theorem restN_len (c : Nat) (s : List Nat) : ∀ j, (restN c s j).length ≤ s.length
  | 0 => Nat.le_refl _
  | j + 1 => by
    have := restN_len c s j
    unfold restN
    split
    · rw [List.length_drop]; omega
    · simp
theorem restN_split (c : Nat) (s : List Nat) : ∀ j, j < (splitN c s).length → splitN c (restN c s j) = (splitN c s).drop j
  | 0, _ => by simp [restN]
  | j + 1, h => by
    have ih := restN_split c s j (by omega)
    cases hi : idxN c (restN c s j) with
    | none =>
      rw [idx_none hi] at ih
      have := congrArg List.length ih
      rw [List.length_drop] at this
      simp only [List.length_cons, List.length_nil] at this
      omega
    | some i =>
      obtain ⟨_, h2⟩ := idx_some hi
      rw [restN, hi]
      simp only
      rw [h2] at ih
      rw [show (splitN c s).drop (j + 1) = ((splitN c s).drop j).drop 1 by rw [List.drop_drop], ← ih]
      rfl
theorem restN_round (c : Nat) (s : List Nat) (j : Nat) (h : j + 1 < (splitN c s).length) : ∃ i, idxN c (restN c s j) = some i ∧ i < (restN c s j).length ∧ (restN c s j).take i = (splitN c s).getD j [] ∧ (restN c s j).drop (i + 1) = restN c s (j + 1) := by
  have hs := restN_split c s j (by omega)
  cases hi : idxN c (restN c s j) with
  | none =>
    rw [idx_none hi] at hs
    have := congrArg List.length hs
    rw [List.length_drop] at this
    simp only [List.length_cons, List.length_nil] at this
    omega
  | some i =>
    obtain ⟨h1, h2⟩ := idx_some hi
    refine ⟨i, rfl, h1, ?_, by rw [restN, hi]⟩
    rw [h2] at hs
    have : ((splitN c s).drop j)[0]? = some ((restN c s j).take i) := by rw [← hs]; rfl
    rw [List.getElem?_drop, Nat.add_zero] at this
    rw [List.getD_eq_getElem?_getD, this]; rfl
theorem restN_last (c : Nat) (s : List Nat) : idxN c (restN c s ((splitN c s).length - 1)) = none ∧ restN c s ((splitN c s).length - 1) = (splitN c s).getD ((splitN c s).length - 1) [] := by
  have hp : 0 < (splitN c s).length := by
    rcases Nat.eq_zero_or_pos (splitN c s).length with h | h
    · exact absurd (List.length_eq_zero_iff.1 h) (splitN_neq c s)
    · exact h
  have hs := restN_split c s ((splitN c s).length - 1) (by omega)
  cases hi : idxN c (restN c s ((splitN c s).length - 1)) with
  | none =>
    refine ⟨rfl, ?_⟩
    rw [idx_none hi] at hs
    have : ((splitN c s).drop ((splitN c s).length - 1))[0]? = some (restN c s ((splitN c s).length - 1)) := by rw [← hs]; rfl
    rw [List.getElem?_drop, Nat.add_zero] at this
    rw [List.getD_eq_getElem?_getD, this]; rfl
  | some i =>
    obtain ⟨_, h2⟩ := idx_some hi
    rw [h2] at hs
    have := congrArg List.length hs
    have hq : 0 < (splitN c ((restN c s ((splitN c s).length - 1)).drop (i + 1))).length := by
      rcases Nat.eq_zero_or_pos (splitN c ((restN c s ((splitN c s).length - 1)).drop (i + 1))).length with h | h
      · exact absurd (List.length_eq_zero_iff.1 h) (splitN_neq c _)
      · exact h
    rw [List.length_cons, List.length_drop] at this
    omega
theorem callN_yld {n id : Nat} {v : V} {H : Heap} {regs regs1 regs2 : List V} {p : Nat} {ps1 ps2 : List Nat} {asg body asg1 body1 asg2 body2 : I} {s1 s2 : St} {e : Ex} (ho : H[id]? = some (.loop true none regs [p] asg body))
    (h1 : exec (zenv X n) n true asg ⟨put regs p v, H⟩ = some (.nrm, s1)) (ho1 : s1.heap[id]? = some (.loop true none regs1 ps1 asg1 body1))
    (h2 : exec (zenv X n) n true body ⟨s1.regs, s1.heap.set id (.loop false none regs1 ps1 asg1 body1)⟩ = some (e, s2)) (ho2 : s2.heap[id]? = some (.loop false none regs2 ps2 asg2 body2)) :
    callN X (n + 1) (.yld id) [v] H = some (.c (.d (.bool (e == .nrm))), s2.heap.set id (.loop (e == .nrm) (if e == .nrm then none else some e) regs2 ps2 asg2 body2)) := by
  have : callN X (n + 1) (.yld id) [v] H = match ob? H id with
      | some (.loop true none regs ps asg body) =>
        if [v].length = ps.length then
          match exec (zenv X n) n true asg ⟨putAll regs ps [v], H⟩ with
          | some (.nrm, s) =>
            match ob? s.heap id with
            | some (.loop true none regs1 ps1 asg1 body1) =>
              match exec (zenv X n) n true body ⟨s.regs, setOb s.heap id (.loop false none regs1 ps1 asg1 body1)⟩ with
              | some (e, s') =>
                match ob? s'.heap id with
                | some (.loop false none regs2 ps2 asg2 body2) =>
                  some (.c (.d (.bool (e == .nrm))), setOb s'.heap id (.loop (e == .nrm) (if e == .nrm then none else some e) regs2 ps2 asg2 body2))
                | _ => none
              | none => none
            | _ => none
          | _ => none
        else none
      | _ => none := rfl
  rw [this, ob_eq, ho]
  simp only [List.length_cons, List.length_nil, if_true, putAll, h1, ob_eq, ho1, setOb_eq, h2, ho2]
def osP (ps : List (List Nat)) (j : Nat) : List Oid := (ps.take j).map fun x => (parseO x).1
theorem osP_succ (ps : List (List Nat)) {j : Nat} (h : j < ps.length) : osP ps (j + 1) = osP ps j ++ [(parseO (ps.getD j [])).1] := by
  have hx : ps[j]? = some (ps.getD j []) := by rw [List.getD_eq_getElem?_getD, List.getElem?_eq_getElem h]; rfl
  unfold osP
  rw [List.take_add_one, hx, Option.toList_some, List.map_append]
  rfl
theorem osP_len (ps : List (List Nat)) {j : Nat} (h : j ≤ ps.length) : (osP ps j).length = j := by
  simp [osP]; omega
theorem parseO_wf (s : List Nat) : wfO (parseO s).1 := by
  have h0 : wfO o0 := by unfold wfO o0; decide
  unfold parseO
  split
  · exact h0
  split
  · exact h0
  rename_i h1 h2
  split
  · exact h0
  split
  · exact h0
  · exact ⟨by simp only; omega, arrP_len _ _, arrP_lt _ _⟩
theorem osP_wf (ps : List (List Nat)) (j : Nat) : wfS (osP ps j) := fun o ho => by
  obtain ⟨x, _, rfl⟩ := List.mem_map.1 ho
  exact parseO_wf x
theorem flC_d (l : List Oid) : (flC l).all C.isD = true := by
  rw [List.all_eq_true]
  intro c hc
  obtain ⟨d, _, rfl⟩ := List.mem_map.1 hc
  rfl
theorem p147 (hX : XOk m X) {N : Nat} {s : List Nat} {c : Nat} : (zenv X N).prim 147 [.c (.d (.str s)), .c (.d (.str [c]))] = some (.c (.d (.int .i64 (oInt (idxN c s))))) := by
  rw [zenv_pr]
  exact hX.prim _ _ _ rfl
end Mini
end Go.Proofs.YtgjlofpfbhioaaaGreatDoor
namespace Go.Proofs.YtgjlofpfbhioaaaGreatDoor
namespace Mini
open Go
variable {m : Int} {X : Ctx}
theorem seqLen (c : Nat) (s : List Nat) : 0 < (splitN c s).length := by
  rcases Nat.eq_zero_or_pos (splitN c s).length with h | h
  · exact absurd (List.length_eq_zero_iff.1 h) (splitN_neq c s)
  · exact h
theorem f93 (hX : XOk m X) {N : Nat} (hN : 2 ≤ N) {s c : List Nat} {H : Heap} : callN X N (.d (.fn 93 [] [])) [strV s, strV c] H = some (.c (.fn 148 [] [.ptr (H.length + 1) 0 0, .ptr H.length 0 0, .ptr (H.length + 2) 0 0]), H ++ [.cells [.d (.str s)] 0 false, .cells [.d (.str c)] 0 false, .cells [.d (.int .i64 0)] 0 false]) := by
  obtain ⟨N, rfl⟩ : ∃ M, N = M + 2 := ⟨N - 2, by omega⟩
  have h115 : callN X (N + 1) (.d (.fn 115 [] [])) [strV s, strV c, i64 0] H = some (.c (.fn 148 [] [.ptr (H.length + 1) 0 0, .ptr H.length 0 0, .ptr (H.length + 2) 0 0]), H ++ [.cells [.d (.str s)] 0 false, .cells [.d (.str c)] 0 false, .cells [.d (.int .i64 0)] 0 false]) := by
    rw [hX.fn (F := fn115) rfl]
    refine (rf_fin _ _ _ _ _ _ _ _ _ (by rfl)).trans ?_
    simp only [strV, V.one, List.length_append, List.append_assoc, evs, Nat.reduceAdd, Nat.reduceSub]
  rw [hX.fn (F := fn93) rfl]
  refine (rf_fin _ _ _ _ _ _ _ _ _ (by rfl)).trans ?_
  simp only [strV, i64] at h115
  simp only [strV, h115, List.map_cons, List.map_nil, evs, Nat.reduceAdd, Nat.reduceSub]
end Mini
end Go.Proofs.YtgjlofpfbhioaaaGreatDoor
namespace Go.Proofs.YtgjlofpfbhioaaaGreatDoor
namespace Mini
open Go
variable {m : Int} {X : Ctx}
def itemsOk (ps : List (List Nat)) : Prop := ∀ j, j < ps.length → (parseO (ps.getD j [])).2 = 0
instance (ps : List (List Nat)) : Decidable (itemsOk ps) := by unfold itemsOk; infer_instance
theorem ex_rf {E : Env} {N : Nat} {f : A} {ps : List Nat} {asg body : I} {regs : List V} {H H2 : Heap} {x : C} {r : V} {regs2 : List V} {ps2 : List Nat} {asg2 body2 : I} (hx : look E regs [] f = .c x) (hf : x.isFn = true) (hc : E.call x [.c (.yld H.length)] (H ++ [.loop true none regs ps asg body]) = some (r, H2)) (ho : H2[H.length]? = some (.loop true none regs2 ps2 asg2 body2)) :
    exec E N false (.rf f ps asg body) ⟨regs, H⟩ = some (.nrm, ⟨regs, H2.set H.length .dead⟩) := by
  simp only [exec, hx, hf, hc, ob_eq, ho, setOb_eq]
  simp
theorem ex_rf_out {E : Env} {N : Nat} {f : A} {ps : List Nat} {asg body : I} {regs : List V} {H H2 : Heap} {x : C} {r : V} {e : Ex} {regs2 : List V} {ps2 : List Nat} {asg2 body2 : I} (hx : look E regs [] f = .c x) (hf : x.isFn = true) (hc : E.call x [.c (.yld H.length)] (H ++ [.loop true none regs ps asg body]) = some (r, H2)) (ho : H2[H.length]? = some (.loop false (some e) regs2 ps2 asg2 body2)) :
    exec E N false (.rf f ps asg body) ⟨regs, H⟩ = some (e, ⟨regs, H2.set H.length .dead⟩) := by
  simp only [exec, hx, hf, hc, ob_eq, ho, setOb_eq]
  simp
end Mini
end Go.Proofs.YtgjlofpfbhioaaaGreatDoor
namespace Go.Proofs.YtgjlofpfbhioaaaGreatDoor
namespace Mini
open Go
variable {m : Int} {X : Ctx}
theorem f33g (hX : XOk m X) {N : Nat} {s : List Nat} {w : D} {u : List Oid} {b1 b2 b3 : Bool} (hN : s.length + 400 ≤ N) (hs : s.length < 1000000) (hu : isSet w u) (hul : wfS u) (hlen : u.length < 1000000) : vcallN X N 33 [.agg (anC s w b1 b2 b3)] = some (i64 (chkA s u)) := by
  obtain ⟨N, rfl⟩ : ∃ M, N = M + 1 := ⟨N - 1, by omega⟩
  have h1 := hX.vc (k := 70) (F := fn70) rfl (f70 hX (N := N) (s := s) (by omega) (by omega))
  have h2 := hX.vc (k := 19) (F := fn19) rfl (f19 hX (N := N) (by omega) hu hul hlen)
  have h3 := hu.len
  simp only [i64, bl] at h1 h2
  refine vcall_of (r := i64 (chkA s u)) (H := [.cells (anC s w b1 b2 b3) 0 false]) ?_ rfl
  rw [hX.fn (F := fn33) rfl]
  refine (rf_fin _ _ _ _ _ _ _ _ _ (by rfl)).trans ?_
  unfold chkA
  cases hn : nameB s
  · rw [hn] at h1
    simp only [anC, ob?, h1, Bool.not_false, List.take, List.drop, Int.cast_ofNat_Int, evs, Nat.reduceSub]
  · rw [hn] at h1
    by_cases c1 : chkS u = 0
    · rw [c1] at h2 ⊢
      by_cases c2 : u.length = 0
      · simp only [anC, ob?, h1, h2, h3, c2, Bool.not_true, ne_eq, not_true_eq_false, List.take, List.drop, Int.cast_ofNat_Int, ↓sp_len, evs, Nat.reduceSub, reduceCtorEq]
      · have g2 : ((u.length : Int) == 0) = false := by rw [beq_eq_false_iff_ne]; omega
        simp only [anC, ob?, h1, h2, h3, g2, c2, Bool.not_true, ne_eq, not_true_eq_false, List.take, List.drop, Int.natCast_zero, ↓sp_len, evs, Nat.reduceSub, reduceCtorEq]
    · have g1 : ((chkS u : Int) != 0) = true := by rw [bne_iff_ne]; omega
      simp only [anC, ob?, h1, h2, g1, c1, Bool.not_true, ne_eq, not_false_eq_true, List.take, List.drop, evs, Nat.reduceSub, reduceCtorEq]
section
variable {N j : Nat} {s a b : List Nat} {H : Heap} {l : List An}
end
end Mini
end Go.Proofs.YtgjlofpfbhioaaaGreatDoor
namespace Go.Proofs.YtgjlofpfbhioaaaGreatDoor
namespace Mini
open Go
variable {m : Int} {X : Ctx}
theorem getD_len (q : List (List Nat)) (b j : Nat) (h : ∀ x ∈ q, x.length ≤ b) : (q.getD j []).length ≤ b := by
  rw [List.getD_eq_getElem?_getD]
  cases hx : q[j]? with
  | none => simp
  | some x => exact h x (List.mem_of_getElem? hx)
end Mini
end Go.Proofs.YtgjlofpfbhioaaaGreatDoor
namespace Go.Proofs.YtgjlofpfbhioaaaGreatDoor
namespace Mini
open Go
theorem isDig_of {n : Nat} (h : n < 10) : isDig (48 + n) = true := by
  simp only [isDig, Bool.and_eq_true, Nat.ble_eq]; omega
theorem decF_dig : ∀ f n, ∀ b ∈ decF f n, isDig b = true
  | 0, n, b, h => by
    simp only [decF, List.mem_singleton] at h
    subst h; exact isDig_of (by omega)
  | f + 1, n, b, h => by
    unfold decF at h
    split at h
    · rename_i hn
      rw [List.mem_singleton] at h
      subst h; exact isDig_of hn
    · rw [List.mem_append, List.mem_singleton] at h
      rcases h with h | h
      · exact decF_dig f _ b h
      · subst h; exact isDig_of (by omega)
theorem numN_decF : ∀ f n, n < 10 ^ (f + 1) → numN 0 (decF f n) = n
  | 0, n, h => by
    have : n < 10 := by simpa using h
    simp only [decF, numN, List.foldl_cons, List.foldl_nil]
    omega
  | f + 1, n, h => by
    unfold decF
    split
    · rename_i hn
      simp only [numN, List.foldl_cons, List.foldl_nil]
      omega
    · rw [numN_snoc, numN_decF f (n / 10) (by rw [Nat.pow_succ] at h; omega)]
      omega
theorem decF_head : ∀ f n, 0 < n → n < 10 ^ (f + 1) → (decF f n).getD 0 0 ≠ 48
  | 0, n, h0, h => by
    have : n < 10 := by simpa using h
    simp only [decF, List.getD_cons_zero]
    omega
  | f + 1, n, h0, h => by
    unfold decF
    split
    · simp only [List.getD_cons_zero]; omega
    · have ih := decF_head f (n / 10) (by omega) (by rw [Nat.pow_succ] at h; omega)
      have hne := (decF_len f (n / 10)).2
      cases hd : decF f (n / 10) with
      | nil => rw [hd] at hne; exact absurd hne (by simp)
      | cons x t =>
        rw [hd] at ih
        simpa using ih
theorem decN_num {n : Nat} (h : n < 4294967296) : numN 0 (decN n) = n := numN_decF 20 n (Nat.lt_of_lt_of_le h (by decide))
theorem decN_dec {n : Nat} (h : n < 4294967296) : decB (decN n) = true := by
  have hd : (decN n).all isDig = true := List.all_eq_true.2 (decF_dig 20 n)
  rcases Nat.eq_zero_or_pos n with rfl | hp
  · decide
  · have h1 := decF_head 20 n hp (Nat.lt_of_lt_of_le h (by decide))
    have h2 : decN n ≠ [] := fun he => by
      have := (decF_len 20 n).2
      change 0 < (decN n).length at this
      rw [he] at this; exact absurd this (by simp)
    unfold decB
    rw [decide_eq_true h2, decide_eq_true (show (decN n).getD 0 0 ≠ 48 from h1), hd]
    simp
theorem splitN_word {c : Nat} : ∀ {x : List Nat}, c ∉ x → splitN c x = [x]
  | [], _ => rfl
  | y :: x, h => by
    rw [List.mem_cons, not_or] at h
    rw [splitN, if_neg (fun he => h.1 he.symm), splitN_word h.2]
theorem splitN_cons {c : Nat} (rest : List Nat) : ∀ {x : List Nat}, c ∉ x → splitN c (x ++ c :: rest) = x :: splitN c rest
  | [], _ => by rw [List.nil_append, splitN, if_pos rfl]
  | y :: x, h => by
    rw [List.mem_cons, not_or] at h
    rw [List.cons_append, splitN, if_neg (fun he => h.1 he.symm), splitN_cons rest h.2]
theorem splitN_join {c : Nat} : ∀ {l : List (List Nat)}, l ≠ [] → (∀ x ∈ l, c ∉ x) → splitN c (joinN [c] l) = l
  | [], h, _ => absurd rfl h
  | [x], _, h => by rw [joinN]; exact splitN_word (h x (by simp))
  | x :: y :: l, _, h => by
    rw [joinN, List.append_assoc, List.singleton_append, splitN_cons _ (h x (by simp)), splitN_join (by simp) (fun z hz => h z (List.mem_cons_of_mem _ hz))]
theorem textO_char (o : Oid) : ∀ c ∈ textO o, isDig c = true ∨ c = 46 := fun c hc => by
  rcases joinN_mem [46] hc with h | ⟨x, h1, h2⟩
  · rw [List.mem_singleton] at h; exact .inr h
  · obtain ⟨n, _, rfl⟩ := List.mem_map.1 h1
    exact .inl (decF_dig 20 n c h2)
theorem isDig_rng {c : Nat} (h : isDig c = true) : 48 ≤ c ∧ c ≤ 57 := by
  simpa [isDig, Nat.ble_eq] using h
theorem arrP_eq (ps : List (List Nat)) : ∀ j, j ≤ 16 → j ≤ ps.length → arrP ps j = (ps.take j).map valP ++ List.replicate (16 - j) 0
  | 0, _, _ => by simp [arrP]
  | j + 1, h1, h2 => by
    have ih := arrP_eq ps j (by omega) (by omega)
    have hx : ps[j]? = some (ps.getD j []) := by rw [List.getD_eq_getElem?_getD, List.getElem?_eq_getElem (by omega)]; rfl
    have hl : ((ps.take j).map valP).length = j := by simp; omega
    rw [arrP, if_pos (by omega), ih, List.take_add_one, hx, Option.toList_some, List.map_append, List.set_append_right _ _ (by omega), hl, Nat.sub_self, show 16 - j = (16 - (j + 1)) + 1 by omega, List.replicate_succ, List.set_cons_zero]
    simp
theorem largeP_no (ps : List (List Nat)) (h : ∀ x ∈ ps, numN 0 x ≤ 4294967295) : ∀ j, largeP ps j = false
  | 0 => rfl
  | j + 1 => by
    rw [largeP, largeP_no ps h j, Bool.false_or, decide_eq_false_iff_not]
    rw [List.getD_eq_getElem?_getD]
    cases hx : ps[j]? with
    | none => simp [numN]
    | some x =>
      have := h x (List.mem_of_getElem? hx)
      simp only [Option.getD_some]
      omega
theorem chkO_tail {o : Oid} (h : chkO o = 0) : (o.2.drop o.1).all (· == 0) = true := by
  unfold chkO at h
  split at h
  · cases h
  split at h
  · cases h
  split at h
  · assumption
  · cases h
theorem parse_text {o : Oid} (hw : wfO o) (hc : chkO o = 0) : parseO (textO o) = (o, 0) := by
  have hn := chkO_n hc
  have hal := arcsO_len hw
  rw [Nat.min_eq_left hn.2] at hal
  have hlt : ∀ x ∈ arcsO o, x < 4294967296 := fun x hx => hw.2.2 x (List.mem_of_mem_take hx)
  have hsp : splitN 46 (textO o) = (arcsO o).map decN := by
    refine splitN_join (fun he => ?_) (fun x hx => ?_)
    · have := congrArg List.length he
      rw [List.length_map, hal] at this
      simp only [List.length_nil] at this
      omega
    · obtain ⟨n, _, rfl⟩ := List.mem_map.1 hx
      intro h
      have := isDig_rng (decF_dig 20 n 46 h)
      omega
  have hpl : ((arcsO o).map decN).length = o.1 := by rw [List.length_map, hal]
  have h1 : ((arcsO o).map decN).all decB = true := List.all_eq_true.2 fun x hx => by
    obtain ⟨n, hn, rfl⟩ := List.mem_map.1 hx
    exact decN_dec (hlt n hn)
  have h2 : ∀ x ∈ (arcsO o).map decN, numN 0 x ≤ 4294967295 := fun x hx => by
    obtain ⟨n, hn, rfl⟩ := List.mem_map.1 hx
    rw [decN_num (hlt n hn)]
    have := hlt n hn
    omega
  have h3 : arrP ((arcsO o).map decN) o.1 = o.2 := by
    rw [arrP_eq _ _ hn.2 (by omega), List.take_of_length_le (by omega), List.map_map]
    have e1 : (arcsO o).map (valP ∘ decN) = arcsO o := by
      conv => rhs; rw [← List.map_id (arcsO o)]
      refine List.map_congr_left fun x hx => ?_
      simp only [Function.comp, valP, decN_num (hlt x hx), id]
      have := hlt x hx
      rw [if_pos (by omega)]
    have e2 : List.replicate (16 - o.1) 0 = o.2.drop o.1 := by
      have ht := chkO_tail hc
      rw [List.all_eq_true] at ht
      symm
      rw [List.eq_replicate_iff]
      refine ⟨by rw [List.length_drop, hw.2.1], fun x hx => by simpa using ht x hx⟩
    rw [e1, e2, arcsO, List.take_append_drop]
  unfold parseO
  rw [hsp, hpl, h3, if_neg (by rw [h1]; simp), if_neg (by omega), if_neg (by rw [largeP_no _ h2]; simp), if_neg (by rw [hc]; simp)]
theorem okB_rng {c : Nat} (h : okB c = true) : 45 ≤ c := by
  simp only [okB, letB, digB, Bool.or_eq_true, Bool.and_eq_true, decide_eq_true_eq] at h
  omega
theorem setT_char (l : List Oid) : ∀ c ∈ setT l, 44 ≤ c := fun c hc => by
  rcases joinN_mem [44] hc with h | ⟨x, h1, h2⟩
  · rw [List.mem_singleton] at h; omega
  · obtain ⟨o, _, rfl⟩ := List.mem_map.1 h1
    rcases textO_char o c h2 with h | h
    · have := isDig_rng h; omega
    · omega
theorem split_set {l : List Oid} (h : l ≠ []) : splitN 44 (setT l) = l.map textO := by
  refine splitN_join (by simpa using h) (fun x hx => ?_)
  obtain ⟨o, _, rfl⟩ := List.mem_map.1 hx
  intro h
  rcases textO_char o 44 h with h | h
  · have := isDig_rng h; omega
  · omega
end Mini
end Go.Proofs.YtgjlofpfbhioaaaGreatDoor
namespace Go.Proofs.YtgjlofpfbhioaaaGreatDoor
namespace Mini
open Go
variable {m : Int} {X : Ctx}
def sumS (a x : Nat) : Nat := (a * 31 + x) % 65521
def sumN (a : Nat) (s : List Nat) : Nat := s.foldl sumS a
theorem sumN_lt : ∀ (s : List Nat) {a : Nat}, a < 65521 → sumN a s < 65521
  | [], _, h => h
  | x :: s, a, _ => sumN_lt s (a := sumS a x) (Nat.mod_lt _ (by decide))
theorem sumN_at {s : List Nat} {a j : Nat} (h : j < s.length) : sumN a (s.take (j + 1)) = sumS (sumN a (s.take j)) (s.getD j 0) := by
  have hx : s[j]? = some (s.getD j 0) := by rw [List.getD_eq_getElem?_getD, List.getElem?_eq_getElem h]; rfl
  rw [List.take_add_one, hx, Option.toList_some]
  simp [sumN]
theorem step_sum {a x : Nat} (ha : a < 65521) (hx : x < 256) : IntKind.i64.wrap ((a : Int) * 31) = ((a * 31 : Nat) : Int) ∧ IntKind.i64.wrap (x : Int) = (x : Int) ∧ IntKind.i64.wrap (((a * 31 : Nat) : Int) + (x : Int)) = ((a * 31 + x : Nat) : Int) ∧ ((a * 31 + x : Nat) : Int).tmod 65521 = ((sumS a x : Nat) : Int) := by
  refine ⟨?_, wrap_nat (by omega), ?_, ?_⟩
  · rw [← wrap_nat (k := a * 31) (by omega)]; simp
  · rw [← wrap_nat (k := a * 31 + x) (by omega)]; simp
  · rw [Int.tmod_eq_emod_of_nonneg (by omega)]; simp only [sumS]; omega
abbrev R74 (s : List Nat) (x0 : V) (a j : Nat) : List V := [x0, strV s, .any, i64 (sumN a (s.take j)), .any, i64 (s.length : Int), i64 (j : Int), .any]
theorem f74 (hX : XOj m X) {N : Nat} {s : List Nat} {a : Nat} (hN : s.length + 10 ≤ N) (ha : a < 65521) (hb : ∀ c ∈ s, c < 256) (hs : s.length < 1000000000) : vcallN X N 74 [i64 a, strV s] = some (i64 (sumN a s)) := by
  obtain ⟨N, rfl⟩ : ∃ M, N = M + 1 := ⟨N - 1, by omega⟩
  have hF : fnsX 74 = some fn74' := rfl
  have hit : iter (some [1, 3, 5, 6]) 0 (exec (zenv X N) N false fn74L0) N ⟨R74 s .any a 0, []⟩ = some (.exit 0, ⟨[.any, strV s, .any, i64 (sumN a s), .any, i64 (s.length : Int), i64 (s.length : Int), bl false], []⟩) := by
    refine iter_to (fun j => ⟨R74 s .any a j, []⟩) (e := .exit 0) (fun h => by cases h) s.length 0 N (fun j _ hj => ?_) ?_ (by omega)
    · have hj' : j < s.length := by omega
      have h4 : (j : Int) < (s.length : Int) := by omega
      have h6 := wrap_succ (k := j) (by omega)
      have hx : s[j]? = some (s.getD j 0) := by rw [List.getD_eq_getElem?_getD, List.getElem?_eq_getElem hj']; rfl
      have hxb : s.getD j 0 < 256 := hb _ (List.mem_of_getElem? hx)
      have hA := sumN_lt (s.take j) ha
      obtain ⟨e1, e2, e3, e4⟩ := step_sum hA hxb
      have hst := sumN_at (a := a) hj'
      refine ⟨⟨[.any, strV s, .any, i64 (sumN a (s.take (j + 1))), i64 (j : Int), i64 (s.length : Int), i64 ((j + 1 : Nat) : Int), bl true], []⟩, ?_, ?_⟩
      · rw [hst]
        simp only [fn74L0, R74, strV, h4, h6, hx, e1, e2, e3, e4, evs, Int.reduceEq]
      · show gc 0 ⟨_, _⟩ = _
        rw [gc_le (by simp)]
        rfl
    · rw [Nat.zero_add]
      have h4 : ¬ (s.length : Int) < (s.length : Int) := by omega
      have ht : s.take s.length = s := List.take_length
      unfold R74
      rw [ht]
      simp only [fn74L0, strV, h4, evs]
  have h0 : sumN a (s.take 0) = a := rfl
  unfold R74 at hit
  rw [h0] at hit
  simp only [strV, i64, bl, Int.natCast_zero] at hit
  refine vcall_of (r := i64 (sumN a s)) (H := []) ?_ rfl
  rw [hX.fn hF]
  refine (rf_fin _ _ _ _ _ _ _ _ _ (by rfl)).trans ?_
  simp only [strV, hit, evs, Nat.reduceAdd, Nat.reduceBEq, Nat.reduceSub]
abbrev R46 (s : List Nat) (a j : Nat) : List V := [i64 (sumN a (s.take j)), strV s, .any, i64 (j : Int), .any]
theorem f46 (hX : XOj m X) {N : Nat} {s : List Nat} {a : Nat} (hN : s.length + 10 ≤ N) (ha : a < 65521) (hb : ∀ c ∈ s, c < 256) (hs : s.length < 1000000000) : vcallN X N 46 [i64 a, strV s] = some (i64 (sumN a s)) := by
  obtain ⟨N, rfl⟩ : ∃ M, N = M + 1 := ⟨N - 1, by omega⟩
  have hF : fnsX 46 = some fn46' := rfl
  have hit : iter (some [0, 1, 3]) 0 (exec (zenv X N) N false fn46L0) N ⟨R46 s a 0, []⟩ = some (.exit 0, ⟨[i64 (sumN a s), strV s, .any, i64 (s.length : Int), bl false], []⟩) := by
    refine iter_to (fun j => ⟨R46 s a j, []⟩) (e := .exit 0) (fun h => by cases h) s.length 0 N (fun j _ hj => ?_) ?_ (by omega)
    · have hj' : j < s.length := by omega
      have h4 : (j : Int) < (s.length : Int) := by omega
      have h6 := wrap_succ (k := j) (by omega)
      have hx : s[j]? = some (s.getD j 0) := by rw [List.getD_eq_getElem?_getD, List.getElem?_eq_getElem hj']; rfl
      have hxb : s.getD j 0 < 256 := hb _ (List.mem_of_getElem? hx)
      have hA := sumN_lt (s.take j) ha
      obtain ⟨e1, e2, e3, e4⟩ := step_sum hA hxb
      have hst := sumN_at (a := a) hj'
      refine ⟨⟨[i64 (sumN a (s.take (j + 1))), strV s, .any, i64 ((j + 1 : Nat) : Int), bl true], []⟩, ?_, ?_⟩
      · rw [hst]
        simp only [fn46L0, R46, strV, h4, h6, hx, e1, e2, e3, e4, evs, Int.reduceEq]
      · show gc 0 ⟨_, _⟩ = _
        rw [gc_le (by simp)]
        rfl
    · rw [Nat.zero_add]
      have h4 : ¬ (s.length : Int) < (s.length : Int) := by omega
      have ht : s.take s.length = s := List.take_length
      unfold R46
      rw [ht]
      simp only [fn46L0, strV, h4, evs]
  have h0 : sumN a (s.take 0) = a := rfl
  unfold R46 at hit
  rw [h0] at hit
  simp only [strV, i64, bl, Int.natCast_zero] at hit
  refine vcall_of (r := i64 (sumN a s)) (H := []) ?_ rfl
  rw [hX.fn hF]
  refine (rf_fin _ _ _ _ _ _ _ _ _ (by rfl)).trans ?_
  simp only [strV, hit, evs, Nat.reduceAdd, Nat.reduceBEq, Nat.reduceSub]
def reasT (k : Nat) : List Nat := if k = 1 then [109, 97, 112, 112, 101, 100] else if k = 2 then [118, 97, 108, 105, 100] else if k = 3 then [117, 115, 101, 114] else []
theorem f101 (hX : XOj m X) {N : Nat} (hN : 1 ≤ N) {k : Nat} (hk : k < 4) : vcallN X N 101 [.c (.d (.int .u8 (k : Int)))] = some (strV (reasT k)) := by
  obtain ⟨N, rfl⟩ : ∃ M, N = M + 1 := ⟨N - 1, by omega⟩
  refine vcall_of (r := strV (reasT k)) (H := []) ?_ rfl
  rw [hX.fn (F := fn101) rfl]
  have : k = 0 ∨ k = 1 ∨ k = 2 ∨ k = 3 := by omega
  rcases this with rfl | rfl | rfl | rfl <;> rfl
def reasD : D := .sl [.str [], .str [109, 97, 112, 112, 101, 100], .str [118, 97, 108, 105, 100], .str [117, 115, 101, 114]] 4
theorem f77 (hX : XOj m X) {N : Nat} (hN : 1 ≤ N) : vcallN X N 77 [] = some (.c (.d reasD)) := by
  obtain ⟨N, rfl⟩ : ∃ M, N = M + 1 := ⟨N - 1, by omega⟩
  refine vcall_of (r := .c (.os 0 0 0 4 1 (some 4))) (H := [.cells [.d (.str []), .d (.str [109, 97, 112, 112, 101, 100]), .d (.str [118, 97, 108, 105, 100]), .d (.str [117, 115, 101, 114])] 0 false]) ?_ rfl
  rw [hX.fn (F := fn77) rfl]
  rfl
end Mini
end Go.Proofs.YtgjlofpfbhioaaaGreatDoor
