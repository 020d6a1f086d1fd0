/-
  Numbers and dotted forms; lists of anchors, their texts; what finds one: walked.
-/
import Derived.Test.YtgjlofpfbhioaaaGreatDoorMiniJW
namespace Go.Proofs.YtgjlofpfbhioaaaGreatDoor
namespace Mini
open Go
variable {m : Int} {X : Ctx}
def strV (s : List Nat) : V := .c (.d (.str s))
theorem XOk.hp (h : XOk m X) {k : FuncId} (hk : fnsA k = none) {n : Nat} {args : List V} {H : Heap} {r : V × Heap} (hr : hprim0 k args H = some r) : callN X (n + 1) (.d (.fn k [] [])) args H = some r := by
  have : callN X (n + 1) (.d (.fn k [] [])) args H = match X.fns k with
      | some F => runFn (zenv X n) n F (([] : List D).map (fun x => .c (.d x)) ++ args ++ ([] : List D).map (fun x => .c (.d x))) H
      | none => X.hprim k (([] : List D).map (fun x => .c (.d x)) ++ args ++ ([] : List D).map (fun x => .c (.d x))) H := rfl
  obtain ⟨h1, h2, _⟩ := CtxLe.hprim (X := XA m) h hk hr
  rw [this, h1]
  simpa using h2
theorem decF_len : ∀ f n, (decF f n).length ≤ f + 1 ∧ 0 < (decF f n).length
  | 0, n => ⟨Nat.le_refl _, Nat.zero_lt_one⟩
  | f + 1, n => by
    unfold decF
    split
    · simp
    · rw [List.length_append]
      have := decF_len f (n / 10)
      simp only [List.length_cons, List.length_nil]
      omega
def digsS : List Nat := [48, 49, 50, 51, 52, 53, 54, 55, 56, 57, 97, 98, 99, 100, 101, 102, 103, 104, 105, 106, 107, 108, 109, 110, 111, 112, 113, 114, 115, 116, 117, 118, 119, 120, 121, 122]
def pairS : List Nat := (List.range 100).flatMap fun n => [48 + n / 10, 48 + n % 10]
theorem small1 : ∀ n, n < 10 → (digsS.take (n + 1)).drop n = decN n := by decide
theorem small2 : ∀ n, n < 100 → 10 ≤ n → (pairS.take (n * 2 + 2)).drop (n * 2) = decN n := by decide
set_option maxRecDepth 20000 in
theorem f136 (hX : XOk m X) {N : Nat} (hN : 1 ≤ N) {n : Nat} (hn : n < 100) : vcallN X N 136 [i64 n] = some (strV (decN n)) := by
  obtain ⟨N, rfl⟩ : ∃ M, N = M + 1 := ⟨N - 1, by omega⟩
  refine vcall_of (r := strV (decN n)) (H := []) ?_ rfl
  rw [hX.fn (F := fn136) rfl]
  refine (rf_fin _ _ _ _ _ _ _ _ _ (by rfl)).trans ?_
  by_cases c : (n : Int) < 10
  · have h1 := wrap_succ (k := n) (by omega)
    have h2 := small1 n (by omega)
    have h3 : n + 1 ≤ 36 := by omega
    have h4 : n ≤ n + 1 := by omega
    simp only [digsS] at h2
    simp only [strV, c, h1, h2, h3, h4, optNat, evs, Nat.reduceAdd, Nat.reduceSub]
  · have h1 : IntKind.i64.wrap ((n : Int) * 2) = ((n * 2 : Nat) : Int) := by
      rw [← wrap_nat (k := n * 2) (by omega)]; rfl
    have h5 : IntKind.i64.wrap (((n * 2 : Nat) : Int) + 2) = ((n * 2 + 2 : Nat) : Int) := by
      rw [← wrap_nat (k := n * 2 + 2) (by omega)]; rfl
    have h2 := small2 n (by omega) (by omega)
    have h3 : n * 2 + 2 ≤ 200 := by omega
    have h4 : n * 2 ≤ n * 2 + 2 := by omega
    have h6 : pairS = [48, 48, 48, 49, 48, 50, 48, 51, 48, 52, 48, 53, 48, 54, 48, 55, 48, 56, 48, 57, 49, 48, 49, 49, 49, 50, 49, 51, 49, 52, 49, 53, 49, 54, 49, 55, 49, 56, 49, 57, 50, 48, 50, 49, 50, 50, 50, 51, 50, 52, 50, 53, 50, 54, 50, 55, 50, 56, 50, 57, 51, 48, 51, 49, 51, 50, 51, 51, 51, 52, 51, 53, 51, 54, 51, 55, 51, 56, 51, 57, 52, 48, 52, 49, 52, 50, 52, 51, 52, 52, 52, 53, 52, 54, 52, 55, 52, 56, 52, 57, 53, 48, 53, 49, 53, 50, 53, 51, 53, 52, 53, 53, 53, 54, 53, 55, 53, 56, 53, 57, 54, 48, 54, 49, 54, 50, 54, 51, 54, 52, 54, 53, 54, 54, 54, 55, 54, 56, 54, 57, 55, 48, 55, 49, 55, 50, 55, 51, 55, 52, 55, 53, 55, 54, 55, 55, 55, 56, 55, 57, 56, 48, 56, 49, 56, 50, 56, 51, 56, 52, 56, 53, 56, 54, 56, 55, 56, 56, 56, 57, 57, 48, 57, 49, 57, 50, 57, 51, 57, 52, 57, 53, 57, 54, 57, 55, 57, 56, 57, 57] := by kernel_rfl
    rw [h6] at h2
    simp only [strV, c, h1, h2, h3, h4, h5, optNat, evs, Nat.reduceAdd, Nat.reduceSub]
def z24 : List C := List.replicate 24 (.d (.int .u8 0))
theorem byteX_z : ∀ k, mapO byteX (List.replicate k (.d (.int .u8 0))) = some (List.replicate k 0)
  | 0 => rfl
  | k + 1 => by rw [List.replicate_succ, mapO, byteX_z k]; rfl
theorem decF_byte : ∀ f n, ∀ b ∈ decF f n, b < 256
  | 0, n, b, h => by
    simp only [decF, List.mem_singleton] at h
    omega
  | f + 1, n, b, h => by
    unfold decF at h
    split at h
    · simp only [List.mem_singleton] at h; omega
    · rw [List.mem_append, List.mem_singleton] at h
      rcases h with h | h
      · exact decF_byte f _ b h
      · omega
theorem bytesOf_of : ∀ {s : List Nat}, (∀ b ∈ s, b < 256) → bytesOf (ofBytes s) = some s
  | [], _ => rfl
  | b :: s, h => by
    have ih := bytesOf_of (s := s) (fun x hx => h x (List.mem_cons_of_mem _ hx))
    have h1 := h b List.mem_cons_self
    unfold bytesOf ofBytes at ih ⊢
    rw [List.map_cons, mapO, ih]
    simp only [byteOf, Int.ofNat_eq_natCast, Int.toNat_natCast, Nat.mod_eq_of_lt h1]
theorem f111 (hX : XOk m X) {N : Nat} (hN : 2 ≤ N) {n : Nat} (hn : n < 18446744073709551616) : vcallN X N 111 [.c (.d (.int .u64 n)), i64 10] = some (strV (decN n)) := by
  obtain ⟨N, rfl⟩ : ∃ M, N = M + 1 := ⟨N - 1, by omega⟩
  suffices h : ∃ (H : Heap), callN X (N + 1) (.d (.fn 111 [] [])) [.c (.d (.int .u64 n)), i64 10] [] = some (strV (decN n), H) by
    obtain ⟨H, h⟩ := h
    exact vcall_of h rfl
  rw [hX.fn (F := fn111) rfl]
  have g1 : ((10 : Int) == 10) = true := rfl
  by_cases c : (n : Int) < 100
  · have h1 := hX.vc (k := 136) (F := fn136) rfl (f136 hX (N := N) (by omega) (n := n) (by omega))
    have h2 : IntKind.i64.wrap (n : Int) = (n : Int) := wrap_nat (by omega)
    simp only [i64] at h1
    refine ⟨[], (rf_fin _ _ _ _ _ _ _ _ _ (by rfl)).trans ?_⟩
    simp only [strV] at h1 ⊢
    simp only [c, g1, h1, h2, evs, Nat.reduceAdd, Nat.reduceSub]
  · obtain ⟨k1, k2⟩ := decF_len 20 n
    have k3 : (decN n).length ≤ 24 := by unfold decN; omega
    have k4 : 0 < (decN n).length := by unfold decN; exact k2
    have h1 : prim0 137 [.c (.d (.int .u64 n))] = some (.c (.d (.int .i64 ((decN n).length : Int)))) := by
      show (if 1 ≤ (n : Int) ∧ (n : Int) < 18446744073709551616 then some (I64 (Int.ofNat (decN (n : Int).toNat).length)) else none) = _
      rw [if_pos (by omega)]; rfl
    have h1 := hX.prim _ _ _ h1
    have hz : z24.length = 24 := rfl
    have h2 : hprim0 138 [.c (.os 0 0 0 (decN n).length 1 (some 24)), .c (.d (.int .u64 n))] [.cells z24 0 false] = some (.tup [], [.cells (splice z24 0 (ofBytes (decN n))) 0 false]) := by
      show (match ob? [Ob.cells z24 0 false] 0 with
        | some (.cells cs g' false) => if g' = 0 ∧ 0 + (decN n).length ≤ cs.length ∧ 0 ≤ (n : Int) ∧ (n : Int) < 18446744073709551616 ∧ (decN (n : Int).toNat).length = (decN n).length ∧ 0 < (decN n).length ∧ (decN n).length < 1000 ∧ (mapO byteX ((cs.drop 0).take (decN n).length)).isSome then
            some (V.tup [], setOb [Ob.cells z24 0 false] 0 (.cells (splice cs 0 (ofBytes (decN (n : Int).toNat))) 0 false)) else none
        | _ => none) = _
      have hb : (mapO byteX ((z24.drop 0).take (decN n).length)).isSome = true := by
        rw [List.drop_zero, z24, List.take_replicate, byteX_z]; rfl
      simp only [ob?]
      rw [if_pos ⟨trivial, by rw [hz]; omega, by omega, by omega, by rw [Int.toNat_natCast], k4, by omega, hb⟩, Int.toNat_natCast]
      rfl
    obtain ⟨M, rfl⟩ : ∃ M, N = M + 1 := ⟨N - 1, by omega⟩
    have h2 := hX.hp (n := M) (by rfl) h2
    have h5 : splice z24 0 (ofBytes (decN n)) = ofBytes (decN n) ++ z24.drop (decN n).length := by
      unfold splice
      rw [List.take_zero, List.nil_append, Nat.zero_add]
      simp [ofBytes]
    have h6 : ((splice z24 0 (ofBytes (decN n))).drop 0).take (decN n).length = ofBytes (decN n) := by
      rw [h5, List.drop_zero, List.take_left' (by simp [ofBytes])]
    have h7 : (splice z24 0 (ofBytes (decN n))).length = 24 := by
      rw [h5, List.length_append, List.length_drop, hz]; simp [ofBytes]; omega
    have h8 := bytesOf_of (s := decN n) (decF_byte 20 n)
    refine ⟨[.cells (splice z24 0 (ofBytes (decN n))) 0 false], (rf_fin _ _ _ _ _ _ _ _ _ (by rfl)).trans ?_⟩
    have hzz : z24 = [.d (.int .u8 0), .d (.int .u8 0), .d (.int .u8 0), .d (.int .u8 0), .d (.int .u8 0), .d (.int .u8 0), .d (.int .u8 0), .d (.int .u8 0), .d (.int .u8 0), .d (.int .u8 0), .d (.int .u8 0), .d (.int .u8 0), .d (.int .u8 0), .d (.int .u8 0), .d (.int .u8 0), .d (.int .u8 0), .d (.int .u8 0), .d (.int .u8 0), .d (.int .u8 0), .d (.int .u8 0), .d (.int .u8 0), .d (.int .u8 0), .d (.int .u8 0), .d (.int .u8 0)] := rfl
    generalize splice z24 0 (ofBytes (decN n)) = cs at *
    rw [hzz] at h2
    simp only [strV, ob?, c, g1, h1, h2, h6, h7, h8, k3, zenv, elems, optNat, Option.map_none, Nat.zero_le, Nat.le_refl, Nat.sub_zero, List.map_cons, List.map_nil, evs, Nat.reduceAdd, Nat.reduceSub]
theorem f89 (hX : XOk m X) {N : Nat} (hN : 3 ≤ N) {n : Nat} (hn : n < 18446744073709551616) : vcallN X N 89 [.c (.d (.int .u64 n)), i64 10] = some (strV (decN n)) := by
  obtain ⟨N, rfl⟩ : ∃ M, N = M + 1 := ⟨N - 1, by omega⟩
  have h1 := hX.vc (k := 111) (F := fn111) rfl (f111 hX (N := N) (by omega) hn)
  refine vcall_of (r := strV (decN n)) (H := []) ?_ rfl
  rw [hX.fn (F := fn89) rfl]
  refine (rf_fin _ _ _ _ _ _ _ _ _ (by rfl)).trans ?_
  simp only [strV, i64] at h1 ⊢
  simp only [h1, evs, Nat.reduceAdd, Nat.reduceSub]
end Mini
end Go.Proofs.YtgjlofpfbhioaaaGreatDoor
namespace Go.Proofs.YtgjlofpfbhioaaaGreatDoor
namespace Mini
open Go
variable {m : Int} {X : Ctx}
theorem zenv_pr {X : Ctx} {n : Nat} : (zenv X n).prim = X.prim := rfl
theorem wrap_u64 {n : Nat} (h : n < 18446744073709551616) : IntKind.u64.wrap (n : Int) = (n : Int) := by
  simp only [IntKind.wrap, IntKind.bits, IntKind.signed]
  simp
  omega
/-- The first i words of a row of n, the others empty. -/
def wordsC (l : List (List Nat)) (i : Nat) : List C := (l.take i ++ List.replicate (l.length - i) []).map fun s => .d (.str s)
theorem wordsC_len (l : List (List Nat)) {i : Nat} (h : i ≤ l.length) : (wordsC l i).length = l.length := by simp [wordsC]; omega
theorem wordsC_set (l : List (List Nat)) {i : Nat} (h : i < l.length) : splice (wordsC l i) i [.d (.str (l.getD i []))] = wordsC l (i + 1) := by
  have h1 : (l.take i).length = i := by rw [List.length_take]; omega
  have h2 : l.length - i = (l.length - (i + 1)) + 1 := by omega
  unfold splice wordsC
  rw [h2, List.replicate_succ, List.map_append, List.take_left' (by rw [List.length_map, h1])]
  rw [show i + [C.d (D.str (l.getD i []))].length = ((l.take i).map fun s => C.d (D.str s)).length + 1 by simp; omega]
  rw [← List.drop_drop, List.drop_left, List.map_cons, List.drop_succ_cons, List.drop_zero]
  rw [List.take_succ_eq_append_getElem h, List.map_append, List.map_append, List.getD_eq_getElem?_getD, List.getElem?_eq_getElem h]
  simp
theorem strsOf_words : ∀ l : List (List Nat), strsOf (l.map D.str) = some l
  | [] => rfl
  | x :: l => by rw [List.map_cons, strsOf, strsOf_words l]; rfl
def textO (o : Oid) : List Nat := joinN [46] ((arcsO o).map decN)
theorem joinN_len (sep : List Nat) (b : Nat) : ∀ l : List (List Nat), (∀ x ∈ l, x.length ≤ b) → (joinN sep l).length ≤ l.length * (b + sep.length)
  | [], _ => by simp [joinN]
  | [x], h => by
    have := h x (by simp)
    simp only [joinN, List.length_cons, List.length_nil]
    omega
  | x :: y :: l, h => by
    have h1 := h x (by simp)
    have h2 := joinN_len sep b (y :: l) (fun z hz => h z (List.mem_cons_of_mem _ hz))
    simp only [joinN, List.length_append, List.length_cons] at h2 ⊢
    have : (l.length + 1 + 1) * (b + sep.length) = (l.length + 1) * (b + sep.length) + (b + sep.length) := Nat.succ_mul _ _
    omega
theorem f61_bad (hX : XOk m X) {N : Nat} (hN : 40 ≤ N) {o : Oid} (ho : wfO o) (hc : chkO o ≠ 0) : vcallN X N 61 [.agg (oC o)] = some (strV [63]) := by
  obtain ⟨N, rfl⟩ : ∃ M, N = M + 1 := ⟨N - 1, by omega⟩
  have hF : fnsA 61 = some fn61' := rfl
  refine vcall_of (r := strV [63]) (H := [.cells (oC o) 0 false]) ?_ rfl
  rw [hX.fn hF]
  have hd : ∀ o : Oid, List.map C.d (oD o) = oC o := fun _ => rfl
  have hm : ∀ (H : Heap) (o : Oid), mapO (deepC H deepMax) (oC o) = some (oD o) := fun H o => mapO_d H _ _
  have h1 := hX.vc (k := 53) (F := fn53) rfl (chkO_ok (hX.fns _ _ rfl) ho (N := N) (by omega))
  have h6 := oC_len ho
  have g1 : ((chkO o : Int) != 0) = true := by rw [bne_iff_ne]; omega
  refine (rf_fin _ _ _ _ _ _ _ _ _ (by rfl)).trans ?_
  simp only [i64] at h1
  simp only [strV, ob?, h1, h6, g1, hm, hd, List.drop_zero, List.take_of_length_le (Nat.le_of_eq h6), evs, Nat.reduceSub]
theorem f61 (hX : XOk m X) {N : Nat} (hN : 40 ≤ N) {o : Oid} (ho : wfO o) (hc : chkO o = 0) : vcallN X N 61 [.agg (oC o)] = some (strV (textO o)) := by
  obtain ⟨N, rfl⟩ : ∃ M, N = M + 1 := ⟨N - 1, by omega⟩
  have hF : fnsA 61 = some fn61' := rfl
  suffices h : ∃ (H : Heap), callN X (N + 1) (.d (.fn 61 [] [])) [.agg (oC o)] [] = some (strV (textO o), H) by
    obtain ⟨H, h⟩ := h
    exact vcall_of h rfl
  rw [hX.fn hF]
  have hd : ∀ o : Oid, List.map C.d (oD o) = oC o := fun _ => rfl
  have hm : ∀ (H : Heap) (o : Oid), mapO (deepC H deepMax) (oC o) = some (oD o) := fun H o => mapO_d H _ _
  have h1 := hX.vc (k := 53) (F := fn53) rfl (chkO_ok (hX.fns _ _ rfl) ho (N := N) (by omega))
  rw [hc] at h1
  have h6 := oC_len ho
  have hn : 2 ≤ o.1 ∧ o.1 ≤ 16 := by
    unfold chkO at hc
    split at hc
    · cases hc
    · omega
  have hal := arcsO_len ho
  have hmin : min o.1 16 = o.1 := by omega
  rw [hmin] at hal
  have h0 : (oC o).take 1 = [.d (.int .u8 (o.1 : Int))] := oC_n (o := o)
  have h86 := f86 hX (N := N) (by omega) ho (H := [.cells (oC o) 0 false, .cells (wordsC ((arcsO o).map decN) 0) 0 false]) (id := 0) rfl
  rw [hmin] at h86
  have hw0 : rep [C.d (.str [])] o.1 = wordsC ((arcsO o).map decN) 0 := by
    rw [rep_flat]
    simp [wordsC, hal]
  have h1i : o.1 * 16 ≤ 1099511627776 := by omega
  have h1j : o.1 ≤ 1099511627776 := by omega
  have hit : iter (some [3, 7, 8, 9]) 2 (exec (zenv X N) N false fn61L0) N ⟨[.any, .any, .any, .c (.os 1 0 0 o.1 1 (some o.1)), .any, .any, .any, .c (.os 0 0 1 o.1 1 (some 16)), i64 (o.1 : Int), i64 ((0 : Nat) : Int), .any], [.cells (oC o) 0 false, .cells (wordsC ((arcsO o).map decN) 0) 0 false]⟩ = some (.exit 0, ⟨[.any, .any, .any, .c (.os 1 0 0 o.1 1 (some o.1)), .any, .any, .any, .c (.os 0 0 1 o.1 1 (some 16)), i64 (o.1 : Int), i64 (o.1 : Int), bl false], [.cells (oC o) 0 false, .cells (wordsC ((arcsO o).map decN) o.1) 0 false]⟩) := by
    refine iter_to (fun i => ⟨[.any, .any, .any, .c (.os 1 0 0 o.1 1 (some o.1)), .any, .any, .any, .c (.os 0 0 1 o.1 1 (some 16)), i64 (o.1 : Int), i64 (i : Int), .any], [.cells (oC o) 0 false, .cells (wordsC ((arcsO o).map decN) i) 0 false]⟩) (e := .exit 0) (fun h => by cases h) o.1 0 N (fun j _ hj => ?_) ?_ (by omega)
    · have hjn : j < o.1 := by omega
      have hx : o.2[j]? = some (o.2.getD j 0) := by rw [List.getD_eq_getElem?_getD, List.getElem?_eq_getElem (by rw [ho.2.1]; omega)]; rfl
      have q1 := oC_arc hx
      have hxb : o.2.getD j 0 < 4294967296 := by
        rw [List.getD_eq_getElem?_getD, List.getElem?_eq_getElem (by rw [ho.2.1]; omega)]
        exact ho.2.2 _ (List.getElem_mem _)
      have q2 : ((arcsO o).map decN).getD j [] = decN (o.2.getD j 0) := by
        rw [List.getD_eq_getElem?_getD, List.getElem?_map, arcsO, List.getElem?_take_of_lt hjn, hx]; rfl
      have q3 := wordsC_set ((arcsO o).map decN) (i := j) (by rw [List.length_map, hal]; exact hjn)
      rw [q2] at q3
      have q4 := wordsC_len ((arcsO o).map decN) (i := j) (by rw [List.length_map, hal]; omega)
      rw [List.length_map, hal] at q4
      have q5 := hX.vc (k := 89) (F := fn89) rfl (f89 hX (N := N) (by omega) (n := o.2.getD j 0) (by omega))
      have q6 := wrap_u64 (n := o.2.getD j 0) (by omega)
      have q7 := wrap_succ (k := j) (by omega)
      have q8 : (j : Int) < (o.1 : Int) := by omega
      have q9 : j + 1 ≤ o.1 := by omega
      simp only [u32D] at q1
      simp only [i64, strV] at q5
      generalize o.2.getD j 0 = x at *
      refine ⟨⟨[.any, .any, .any, .c (.os 1 0 0 o.1 1 (some o.1)), i64 (j : Int), .c (.d (.int .u32 x)), .any, .c (.os 0 0 1 o.1 1 (some 16)), i64 (o.1 : Int), i64 ((j + 1 : Nat) : Int), bl true], [.cells (oC o) 0 false, .cells (wordsC ((arcsO o).map decN) (j + 1)) 0 false]⟩, ?_, gc_le (Nat.le_refl 2)⟩
      simp only [fn61L0, ob?, q1, q3, q4, q5, q6, q7, q8, q9, hjn, List.set_cons_succ, List.set_cons_zero, ↓sp_ixa, evs]
    · rw [Nat.zero_add]
      simp only [fn61L0, evs]
  have hwn : wordsC ((arcsO o).map decN) o.1 = (((arcsO o).map decN).map D.str).map .d := by
    unfold wordsC
    rw [List.take_of_length_le (by rw [List.length_map, hal]; exact Nat.le_refl _), List.length_map, hal, Nat.sub_self]
    simp
  have hlw : (wordsC ((arcsO o).map decN) o.1).length = o.1 := by
    rw [wordsC_len _ (by rw [List.length_map, hal]; exact Nat.le_refl _), List.length_map, hal]
  have hdp : deepC [.cells (oC o) 0 false, .cells (wordsC ((arcsO o).map decN) o.1) 0 false] deepMax (.os 1 0 0 o.1 1 (some o.1)) = some (.sl (((arcsO o).map decN).map D.str) o.1) := by
    have p1 : 0 + o.1 * 1 ≤ (wordsC ((arcsO o).map decN) o.1).length := by omega
    have p2 : ((wordsC ((arcsO o).map decN) o.1).drop 0).take (o.1 * 1) = (((arcsO o).map decN).map D.str).map .d := by
      rw [List.drop_zero, List.take_of_length_le (by omega), hwn]
    simp only [deepMax, deepC, ob?, if_true, if_pos p1, p2, mapO_d, Option.map_some]
  have hj : prim0 90 [.c (.d (.sl (((arcsO o).map decN).map D.str) o.1)), .c (.d (.str [46]))] = some (.c (.d (.str (textO o)))) := by
    have e : ∀ vs, prim0 90 vs = joinV vs := fun _ => rfl
    rw [e]
    unfold joinV
    simp only [strsOf_words]
    have hb := joinN_len [46] 21 ((arcsO o).map decN) (fun x hx => by
      obtain ⟨n, _, rfl⟩ := List.mem_map.1 hx
      exact (decF_len 20 n).1)
    rw [List.length_map, hal] at hb
    simp only [List.length_cons, List.length_nil] at hb
    have hb2 : (joinN [46] ((arcsO o).map decN)).length ≤ 1073741824 := by omega
    rw [if_pos ⟨by rw [List.length_map, hal], by omega, by omega, hb2⟩]
    rfl
  have hj := hX.prim _ _ _ hj
  simp only [i64, bl, Int.natCast_zero] at hit h1
  refine ⟨[.cells (oC o) 0 false, .cells (wordsC ((arcsO o).map decN) o.1) 0 false], (rf_fin _ _ _ _ _ _ _ _ _ (by rfl)).trans ?_⟩
  simp only [strV, ob?, h0, h1, h6, h86, hw0, h1i, h1j, hit, hdp, hj, zenv_pr, hm, hd, Nat.le_refl, List.drop_zero, List.take_of_length_le (Nat.le_of_eq h6), List.map_cons, List.map_nil, ↓sp_len, evs, Nat.reduceAdd, Nat.reduceBEq, Nat.reduceSub]
end Mini
end Go.Proofs.YtgjlofpfbhioaaaGreatDoor
namespace Go.Proofs.YtgjlofpfbhioaaaGreatDoor
namespace Mini
open Go
variable {m : Int} {X : Ctx}
theorem wrap_u32 {n : Nat} (h : n < 4294967296) : IntKind.u32.wrap (n : Int) = (n : Int) := by
  simp only [IntKind.wrap, IntKind.bits, IntKind.signed]
  simp
  omega
theorem wrap_u8 {n : Nat} (h : n < 256) : IntKind.u8.wrap (n : Int) = (n : Int) := by
  simp only [IntKind.wrap, IntKind.bits, IntKind.signed]
  simp
  omega
theorem r87 {E : Env} {N : Nat} {n : Nat} {s : List Nat} (hn : n < 4294967296) (hs : s.length < 1000) : exec E N false fn87L0 ⟨[.c (.d (u32D n)), .any, strV s, bl true, .any], []⟩ = some (.nrm, ⟨[.c (.d (u32D (n / 10))), .any, strV ((48 + n % 10) :: s), bl (decide (((n / 10 : Nat) : Int) > 0)), bl true], [.cells [.d (.int .u8 ((48 + n % 10 : Nat) : Int))] 0 false]⟩) := by
  have h1 : (n : Int).tmod 10 = ((n % 10 : Nat) : Int) := (Int.ofNat_tmod n 10).symm
  have h2 : (n : Int).tdiv 10 = ((n / 10 : Nat) : Int) := (Int.ofNat_tdiv n 10).symm
  have h3 : IntKind.u32.wrap (48 + ((n % 10 : Nat) : Int)) = ((48 + n % 10 : Nat) : Int) := by
    rw [← wrap_u32 (n := 48 + n % 10) (by omega)]; rfl
  have h4 : IntKind.u8.wrap ((48 + n % 10 : Nat) : Int) = ((48 + n % 10 : Nat) : Int) := wrap_u8 (by omega)
  have h5 : IntKind.u32.wrap ((n / 10 : Nat) : Int) = ((n / 10 : Nat) : Int) := wrap_u32 (by omega)
  have h6 : bytesOf [C.d (.int .u8 ((48 + n % 10 : Nat) : Int))] = some [48 + n % 10] := bytesOf_of (s := [48 + n % 10]) (fun b hb => by rw [List.mem_singleton] at hb; omega)
  have h7 : 1 + s.length ≤ 1073741824 := by omega
  have h8 : ((10 : Int) = 0) = False := by simp
  generalize 48 + n % 10 = d at *
  generalize n / 10 = q at *
  simp only [fn87L0, strV, u32D, ob?, h1, h2, h3, h4, h5, h6, h7, h8, binStr, elems, lay, rep, splice, List.take, List.drop, List.map_cons, List.map_nil, evs, Nat.reduceLeDiff]
theorem it87 {E : Env} {N : Nat} : ∀ (f n : Nat) (s : List Nat) (fuel : Nat), n < 10 ^ (f + 1) → n < 4294967296 → s.length + f < 1000 → f + 2 ≤ fuel → iter (some [0, 2, 3]) 0 (exec E N false fn87L0) fuel ⟨[.c (.d (u32D n)), .any, strV s, bl true, .any], []⟩ = some (.exit 0, ⟨[.c (.d (u32D 0)), .any, strV (decF f n ++ s), bl false, bl false], []⟩) := by
  have hend : ∀ (s : List Nat), exec E N false fn87L0 ⟨[.c (.d (u32D 0)), .any, strV s, bl false, .any], []⟩ = some (.exit 0, ⟨[.c (.d (u32D 0)), .any, strV s, bl false, bl false], []⟩) := fun s => by
    simp only [fn87L0, evs]
  intro f
  induction f with
  | zero =>
    intro n s fuel hn hn2 hs hf
    obtain ⟨fuel, rfl⟩ : ∃ k, fuel = k + 2 := ⟨fuel - 2, by omega⟩
    have hq : n / 10 = 0 := by omega
    have hr := r87 (E := E) (N := N) hn2 (s := s) (by omega)
    rw [hq] at hr
    rw [iter_step hr]
    have ht : tidy 0 (some [0, 2, 3]) ⟨[.c (.d (u32D 0)), .any, strV ((48 + n % 10) :: s), bl (decide (((0 : Nat) : Int) > 0)), bl true], [.cells [.d (.int .u8 ((48 + n % 10 : Nat) : Int))] 0 false]⟩ = ⟨[.c (.d (u32D 0)), .any, strV ((48 + n % 10) :: s), bl false, .any], []⟩ := gc_yes rfl rfl
    rw [ht, iter_stop (hend _)]
    rfl
  | succ f ih =>
    intro n s fuel hn hn2 hs hf
    obtain ⟨fuel, rfl⟩ : ∃ k, fuel = k + 1 := ⟨fuel - 1, by omega⟩
    have hr := r87 (E := E) (N := N) hn2 (s := s) (by omega)
    rw [iter_step hr]
    by_cases hq : n < 10
    · have hq0 : n / 10 = 0 := by omega
      obtain ⟨fuel, rfl⟩ : ∃ k, fuel = k + 1 := ⟨fuel - 1, by omega⟩
      rw [hq0]
      have ht : tidy 0 (some [0, 2, 3]) ⟨[.c (.d (u32D 0)), .any, strV ((48 + n % 10) :: s), bl (decide (((0 : Nat) : Int) > 0)), bl true], [.cells [.d (.int .u8 ((48 + n % 10 : Nat) : Int))] 0 false]⟩ = ⟨[.c (.d (u32D 0)), .any, strV ((48 + n % 10) :: s), bl false, .any], []⟩ := gc_yes rfl rfl
      rw [ht, iter_stop (hend _), decF, if_pos hq, Nat.mod_eq_of_lt hq]
      rfl
    · have hd : decide (((n / 10 : Nat) : Int) > 0) = true := decide_eq_true (by omega)
      rw [hd]
      have ht : tidy 0 (some [0, 2, 3]) ⟨[.c (.d (u32D (n / 10))), .any, strV ((48 + n % 10) :: s), bl true, bl true], [.cells [.d (.int .u8 ((48 + n % 10 : Nat) : Int))] 0 false]⟩ = ⟨[.c (.d (u32D (n / 10))), .any, strV ((48 + n % 10) :: s), bl true, .any], []⟩ := gc_yes rfl rfl
      rw [ht, ih (n / 10) _ fuel (by rw [Nat.pow_succ] at hn; omega) (by omega) (by simp only [List.length_cons]; omega) (by omega), decF, if_neg hq, List.append_assoc]
      rfl
theorem f87 (hX : XOk m X) {N : Nat} (hN : 40 ≤ N) {n : Nat} (hn : n < 4294967296) : vcallN X N 87 [.c (.d (u32D n))] = some (strV (decN n)) := by
  obtain ⟨N, rfl⟩ : ∃ M, N = M + 1 := ⟨N - 1, by omega⟩
  have hF : fnsA 87 = some fn87' := rfl
  have hit := it87 (E := zenv X N) (N := N) 20 n [] N (Nat.lt_of_lt_of_le hn (by decide)) hn (by simp) (by omega)
  refine vcall_of (r := strV (decN n)) (H := []) ?_ rfl
  rw [hX.fn hF]
  refine (rf_fin _ _ _ _ _ _ _ _ _ (by rfl)).trans ?_
  simp only [strV, bl, List.append_nil] at hit ⊢
  simp only [decN, hit, evs, Nat.reduceAdd, Nat.reduceBEq, Nat.reduceSub]
end Mini
end Go.Proofs.YtgjlofpfbhioaaaGreatDoor
namespace Go.Proofs.YtgjlofpfbhioaaaGreatDoor
namespace Mini
open Go
variable {m : Int} {X : Ctx}
theorem joinN_snoc (sep x : List Nat) : ∀ l : List (List Nat), joinN sep (l ++ [x]) = if l = [] then x else joinN sep l ++ (sep ++ x)
  | [] => rfl
  | [y] => by simp [joinN]
  | y :: z :: l => by
    have ih := joinN_snoc sep x (z :: l)
    rw [if_neg (by simp)] at ih ⊢
    rw [List.cons_append, List.cons_append, joinN, ← List.cons_append, ih, joinN]
    simp only [List.append_assoc]
def pre58 (o : Oid) (i : Nat) : List Nat := joinN [46] (((arcsO o).take i).map decN)
theorem pre58_len (o : Oid) (i : Nat) (h : i ≤ 16) : (pre58 o i).length ≤ 352 := by
  have := joinN_len [46] 21 (((arcsO o).take i).map decN) (fun x hx => by
    obtain ⟨n, _, rfl⟩ := List.mem_map.1 hx
    exact (decF_len 20 n).1)
  have h2 : (((arcsO o).take i).map decN).length ≤ i := by rw [List.length_map, List.length_take]; omega
  simp only [List.length_cons, List.length_nil] at this
  unfold pre58
  omega
theorem f58 (hX : XOk m X) {N : Nat} (hN : 60 ≤ N) {o : Oid} (ho : wfO o) (hn : o.1 ≤ 16) : vcallN X N 58 [.agg (oC o)] = some (strV (textO o)) := by
  obtain ⟨N, rfl⟩ : ∃ M, N = M + 1 := ⟨N - 1, by omega⟩
  have hF : fnsA 58 = some fn58' := rfl
  have hal := arcsO_len ho
  rw [Nat.min_eq_left hn] at hal
  have h0 : (oC o).take 1 = [.d (.int .u8 (o.1 : Int))] := oC_n (o := o)
  have hw : IntKind.i64.wrap (o.1 : Int) = (o.1 : Int) := wrap_nat (by omega)
  have hit : iter (some [1, 3, 4]) 1 (exec (zenv X N) N false fn58L0) N ⟨[.any, .c (.ptr 0 0 0), .any, strV (pre58 o 0), i64 ((0 : Nat) : Int), .any, .any], [.cells (oC o) 0 false]⟩ = some (.exit 0, ⟨[.any, .c (.ptr 0 0 0), .any, strV (pre58 o o.1), i64 (o.1 : Int), bl false, .any], [.cells (oC o) 0 false]⟩) := by
    refine iter_to (fun i => ⟨[.any, .c (.ptr 0 0 0), .any, strV (pre58 o i), i64 (i : Int), .any, .any], [.cells (oC o) 0 false]⟩) (e := .exit 0) (fun h => by cases h) o.1 0 N (fun j _ hj => ?_) ?_ (by omega)
    · have hjn : j < o.1 := by omega
      have hx : o.2[j]? = some (o.2.getD j 0) := by rw [List.getD_eq_getElem?_getD, List.getElem?_eq_getElem (by rw [ho.2.1]; omega)]; rfl
      have q1 := oC_arc hx
      have hxb : o.2.getD j 0 < 4294967296 := by
        rw [List.getD_eq_getElem?_getD, List.getElem?_eq_getElem (by rw [ho.2.1]; omega)]
        exact ho.2.2 _ (List.getElem_mem _)
      have q2 := hX.vc (k := 87) (F := fn87) rfl (f87 hX (N := N) (by omega) hxb)
      have q3 : pre58 o (j + 1) = if j = 0 then decN (o.2.getD j 0) else pre58 o j ++ ([46] ++ decN (o.2.getD j 0)) := by
        unfold pre58
        have hxa : (arcsO o)[j]? = some (o.2.getD j 0) := by rw [arcsO, List.getElem?_take_of_lt hjn, hx]
        have hta : (arcsO o).take (j + 1) = (arcsO o).take j ++ [o.2.getD j 0] := by
          rw [List.take_add_one, hxa]; rfl
        rw [hta, List.map_append, List.map_cons, List.map_nil, joinN_snoc]
        by_cases hz : j = 0
        · subst hz; simp
        · have hne : ¬ ((arcsO o).take j).map decN = [] := by
            intro h
            have := congrArg List.length h
            rw [List.length_map, List.length_take, hal, List.length_nil] at this
            omega
          rw [if_neg hne, if_neg hz]
      have q4 := pre58_len o j (by omega)
      have q5 := (decF_len 20 (o.2.getD j 0)).1
      have q7 := wrap_succ (k := j) (by omega)
      have q8 : (j : Int) < (o.1 : Int) := by omega
      have q9 : j < 16 := by omega
      have q10 : pre58 o 0 = [] := rfl
      simp only [u32D, strV] at q1 q2
      refine ⟨⟨[.any, .c (.ptr 0 0 0), .any, strV (pre58 o (j + 1)), i64 ((j + 1 : Nat) : Int), bl true, bl (decide (j ≠ 0))], [.cells (oC o) 0 false]⟩, ?_, gc_le (Nat.le_refl 1)⟩
      rw [q3]
      change (decN (o.2.getD j 0)).length ≤ 20 + 1 at q5
      generalize o.2.getD j 0 = x at *
      by_cases hz : j = 0
      · subst hz
        have g1 : ¬ ((0 : Nat) : Int) > 0 := by simp
        have g2 : 0 + (decN x).length ≤ 1073741824 := by omega
        simp only [Nat.add_zero] at q1
        simp only [fn58L0, strV, ob?, h0, hw, q1, q2, q7, q8, q10, g1, binStr, show (decN x).length ≤ 1073741824 by omega, List.drop_zero, ne_eq, not_true_eq_false, evs, Nat.reduceLT]
      · have g1 : (j : Int) > 0 := by omega
        have g2 : (pre58 o j).length + 1 ≤ 1073741824 := by omega
        have g3 : (pre58 o j).length + 1 + (decN x).length ≤ 1073741824 := by omega
        simp only [fn58L0, strV, ob?, h0, hw, hz, q1, q2, q7, q8, q9, g1, g2, g3, binStr, List.length_append, List.append_assoc, List.drop_zero, ne_eq, not_false_eq_true, evs]
    · rw [Nat.zero_add]
      simp only [fn58L0, ob?, h0, hw, List.drop_zero, evs]
  refine vcall_of (r := strV (textO o)) (H := [.cells (oC o) 0 false]) ?_ rfl
  rw [hX.fn hF]
  refine (rf_fin _ _ _ _ _ _ _ _ _ (by rfl)).trans ?_
  have ht : pre58 o o.1 = textO o := by
    unfold pre58 textO
    rw [List.take_of_length_le (by omega)]
  have q10 : pre58 o 0 = [] := rfl
  rw [ht, q10] at hit
  simp only [strV, bl, i64, Int.natCast_zero] at hit ⊢
  simp only [hit, evs, Nat.reduceAdd, Nat.reduceBEq, Nat.reduceSub]
end Mini
end Go.Proofs.YtgjlofpfbhioaaaGreatDoor
namespace Go.Proofs.YtgjlofpfbhioaaaGreatDoor
namespace Mini
open Go
variable {m : Int} {X : Ctx}
theorem f97 (hX : XOk m X) {N : Nat} (hN : 30 ≤ N) {o : Oid} (h : wfO o) : vcallN X N 97 [.agg (oC o)] = some (bl (decide (chkO o = 0))) := by
  obtain ⟨N, rfl⟩ : ∃ M, N = M + 1 := ⟨N - 1, by omega⟩
  have hF : fnsA 97 = some fn97' := rfl
  suffices hh : ∃ H, callN X (N + 1) (.d (.fn 97 [] [])) [.agg (oC o)] [] = some (bl (decide (chkO o = 0)), H) by
    obtain ⟨H, hh⟩ := hh
    exact vcall_of hh rfl
  rw [hX.fn hF]
  have h0 := oC_n (o := o)
  have h1 : (((oC o).drop 1).take 1) = [.d (u32D (o.2.getD 0 0))] := oC_a h 0 (by decide)
  have h2 : (((oC o).drop 2).take 1) = [.d (u32D (o.2.getD 1 0))] := oC_a h 1 (by decide)
  have hl := oC_len h
  simp only [u32D] at h1 h2
  generalize hn : o.1 = n at *
  generalize ha : o.2.getD 0 0 = a at *
  generalize hb : o.2.getD 1 0 = b at *
  by_cases c1 : (n : Int) < 2
  · have : decide (chkO o = 0) = false := by
      unfold chkO; rw [if_pos (by omega)]; rfl
    rw [this]
    refine ⟨[.cells (oC o) 0 false], (rf_fin _ _ _ _ _ _ _ _ _ (by rfl)).trans ?_⟩
    simp only [ob?, h0, c1, evs, Nat.reduceSub]
  by_cases c2 : (n : Int) > 16
  · have : decide (chkO o = 0) = false := by
      unfold chkO; rw [if_pos (by omega)]; rfl
    rw [this]
    refine ⟨[.cells (oC o) 0 false], (rf_fin _ _ _ _ _ _ _ _ _ (by rfl)).trans ?_⟩
    simp only [ob?, h0, c1, c2, evs, Nat.reduceSub]
  by_cases c3 : (a : Int) > 2
  · have : decide (chkO o = 0) = false := by
      unfold chkO; rw [if_pos (by omega)]; rfl
    rw [this]
    refine ⟨[.cells (oC o) 0 false], (rf_fin _ _ _ _ _ _ _ _ _ (by rfl)).trans ?_⟩
    simp only [ob?, h0, h1, c1, c2, c3, evs, Nat.reduceLT, Nat.reduceSub]
  by_cases c5 : (a : Int) < 2 ∧ (b : Int) > 39
  · have : decide (chkO o = 0) = false := by
      unfold chkO; rw [if_neg (by omega), if_pos (by omega)]; rfl
    rw [this]
    refine ⟨[.cells (oC o) 0 false], (rf_fin _ _ _ _ _ _ _ _ _ (by rfl)).trans ?_⟩
    simp only [ob?, h0, h1, h2, c1, c2, c3, c5.1, c5.2, evs, Nat.reduceAdd, Nat.reduceLT, Nat.reduceSub]
  by_cases c6 : (b : Int) > 4294967215
  · have : decide (chkO o = 0) = false := by
      unfold chkO; rw [if_neg (by omega), if_pos (by omega)]; rfl
    rw [this]
    refine ⟨[.cells (oC o) 0 false], (rf_fin _ _ _ _ _ _ _ _ _ (by rfl)).trans ?_⟩
    by_cases c4 : (a : Int) < 2
    · exact absurd ⟨c4, by omega⟩ c5
    · simp only [ob?, h0, h1, h2, c1, c2, c3, c4, c6, evs, Nat.reduceAdd, Nat.reduceLT, Nat.reduceSub]
  have hn2 : 2 ≤ n := by omega
  have hn16 : n ≤ 16 := by omega
  have hw : IntKind.i64.wrap (n : Int) = (n : Int) := wrap_nat (by omega)
  have hck : chkO o = if (o.2.drop n).all (· == 0) then 0 else 1 := by
    unfold chkO
    rw [if_neg (by omega), if_neg (by omega), hn]
  have hsc := iter_find (js := some [1, 3]) (hl := 1) (body := exec (zenv X N) N false fn97L0) (fun j => o.2.getD (n + j) 0 ≠ 0) (16 - n) (fun j => ⟨[.any, .c (.ptr 0 0 0), .any, i64 ((n + j : Nat) : Int), .any, .any, .any], [.cells (oC o) 0 false]⟩) (b := 0) (s1 := ⟨[.any, .c (.ptr 0 0 0), .any, i64 ((n + (16 - n) : Nat) : Int), .any, bl false, .any], [.cells (oC o) 0 false]⟩) (Q := fun k s => nth s.regs 2 = bl false) (fuel := N) (by omega)
    (by
      intro j hj hp
      have hp := Decidable.not_not.1 hp
      have q1 := oC_a h (n + j) (by omega)
      have q2 : ((n + j : Nat) : Int) < 16 := by omega
      have q3 : n + j < 16 := by omega
      have q4 := wrap_succ (k := n + j) (by omega)
      rw [hp] at q1
      have q5 : (((0 : Nat) : Int) != 0) = false := rfl
      simp only [u32D] at q1
      refine ⟨⟨[.any, .c (.ptr 0 0 0), .any, i64 ((n + j + 1 : Nat) : Int), .any, bl true, bl false], [.cells (oC o) 0 false]⟩, ?_, gc_le (Nat.le_refl 1)⟩
      simp only [fn97L0, ob?, q1, q2, q3, q4, q5, evs])
    (by
      have q2 : ¬ ((n + (16 - n) : Nat) : Int) < 16 := by omega
      simp only [fn97L0, q2, evs])
    (by
      intro j hj hp
      have q1 := oC_a h (n + j) (by omega)
      have q2 : ((n + j : Nat) : Int) < 16 := by omega
      have q3 : n + j < 16 := by omega
      have q5 : ((o.2.getD (n + j) 0 : Int) != 0) = true := by rw [bne_iff_ne]; omega
      simp only [u32D] at q1
      refine ⟨⟨[.any, .c (.ptr 0 0 0), bl false, i64 ((n + j : Nat) : Int), .any, bl true, bl true], [.cells (oC o) 0 false]⟩, ?_, rfl⟩
      simp only [fn97L0, ob?, q1, q2, q3, q5, evs])
  simp only [i64, bl, Nat.add_zero] at hsc
  have hlen : o.2.length = 16 := h.2.1
  rcases hsc with ⟨hno, hit⟩ | ⟨k, s', hk, hp, hno, hq, hit⟩
  · have hall : (o.2.drop n).all (· == 0) = true := by
      rw [List.all_eq_true]
      intro x hx
      obtain ⟨i, hi, rfl⟩ := List.getElem_of_mem hx
      rw [List.length_drop, hlen] at hi
      have := Decidable.not_not.1 (hno i hi)
      rw [List.getD_eq_getElem?_getD, List.getElem?_eq_getElem (by omega), Option.getD_some] at this
      rw [List.getElem_drop, this]; rfl
    rw [hck, hall]
    refine ⟨[.cells (oC o) 0 false], (rf_fin _ _ _ _ _ _ _ _ _ (by rfl)).trans ?_⟩
    by_cases c4 : (a : Int) < 2
    · have c8 : ¬ (b : Int) > 39 := fun h9 => c5 ⟨c4, h9⟩
      simp only [ob?, h0, h1, h2, hw, c1, c2, c3, c4, c6, c8, hit, evs, Nat.reduceAdd, Nat.reduceLT, Nat.reduceBEq, Nat.reduceSub]
    · simp only [ob?, h0, h1, h2, hw, c1, c2, c3, c4, c6, hit, evs, Nat.reduceAdd, Nat.reduceLT, Nat.reduceBEq, Nat.reduceSub]
  · have hall : (o.2.drop n).all (· == 0) = false := by
      rw [List.all_eq_false]
      refine ⟨o.2.getD (n + k) 0, ?_, by simpa using hp⟩
      rw [List.getD_eq_getElem?_getD, List.getElem?_eq_getElem (by omega), Option.getD_some]
      rw [List.mem_iff_getElem]
      exact ⟨k, by rw [List.length_drop]; omega, by rw [List.getElem_drop]⟩
    rw [hck, hall]
    refine ⟨s'.heap, (rf_fin _ _ _ _ _ _ _ _ _ (by rfl)).trans ?_⟩
    obtain ⟨r, H⟩ := s'
    simp only at hq
    by_cases c4 : (a : Int) < 2
    · have c8 : ¬ (b : Int) > 39 := fun h9 => c5 ⟨c4, h9⟩
      simp only [ob?, h0, h1, h2, hw, c1, c2, c3, c4, c6, c8, hit, hq, evs, Nat.reduceAdd, Nat.reduceLT, Nat.reduceBEq, Nat.reduceSub, reduceCtorEq]
    · simp only [ob?, h0, h1, h2, hw, c1, c2, c3, c4, c6, hit, hq, evs, Nat.reduceAdd, Nat.reduceLT, Nat.reduceBEq, Nat.reduceSub, reduceCtorEq]
end Mini
end Go.Proofs.YtgjlofpfbhioaaaGreatDoor
namespace Go.Proofs.YtgjlofpfbhioaaaGreatDoor
namespace Mini
open Go
variable {m : Int} {X : Ctx}
/-- What arc refuses at once. -/
def arcOff (s : List Nat) : Prop := s.length = 0 ∨ 10 < s.length ∨ (1 < s.length ∧ s.getD 0 0 = 48)
instance (s : List Nat) : Decidable (arcOff s) := by unfold arcOff; infer_instance
def arcV (s : List Nat) : V :=
  if arcOff s ∨ ¬ s.all isDig = true then .tup [.c (.d (u32D 0)), bl false]
  else .tup [.c (.d (u32D (numN 0 s % 4294967296))), bl (decide (numN 0 s < 4294967296))]
theorem numN_snoc (s : List Nat) (b : Nat) : numN 0 (s ++ [b]) = 10 * numN 0 s + (b - 48) := by simp [numN]
theorem numN_lt : ∀ (s : List Nat) (acc k : Nat), s.all isDig = true → acc < 10 ^ k → numN acc s < 10 ^ (k + s.length)
  | [], _, _, _, h => by simpa [numN] using h
  | b :: s, acc, k, hd, h => by
    rw [List.all_cons, Bool.and_eq_true] at hd
    have hb : b ≤ 57 := by
      have := hd.1
      simp only [isDig, Bool.and_eq_true, Nat.ble_eq] at this
      exact this.2
    have := numN_lt s (10 * acc + (b - 48)) (k + 1) hd.2 (by rw [Nat.pow_succ]; omega)
    rw [List.length_cons, show k + (s.length + 1) = k + 1 + s.length by omega]
    exact this
theorem numN_crude : ∀ (s : List Nat) (acc : Nat), (∀ c ∈ s, c < 256) → numN acc s + 30 ≤ (acc + 30) * 10 ^ s.length
  | [], acc, _ => by simp [numN]
  | b :: s, acc, h => by
    have hb := h b List.mem_cons_self
    have ih := numN_crude s (10 * acc + (b - 48)) (fun c hc => h c (List.mem_cons_of_mem _ hc))
    have h2 : (10 * acc + (b - 48) + 30) * 10 ^ s.length ≤ (10 * (acc + 30)) * 10 ^ s.length := Nat.mul_le_mul_right _ (by omega)
    rw [List.length_cons, Nat.pow_succ, Nat.mul_comm (10 ^ s.length) 10, ← Nat.mul_assoc, Nat.mul_comm (acc + 30) 10]
    exact Nat.le_trans ih h2
theorem wrap_u32m (n : Nat) : IntKind.u32.wrap (n : Int) = ((n % 4294967296 : Nat) : Int) := by
  simp only [IntKind.wrap, IntKind.bits, IntKind.signed]
  simp
theorem f96 (hX : XOk m X) {N : Nat} {s : List Nat} (hN : 30 ≤ N) (hs : s.length < 1000000) (hby : ∀ c ∈ s, c < 256) : vcallN X N 96 [strV s] = some (arcV s) := by
  obtain ⟨N, rfl⟩ : ∃ M, N = M + 1 := ⟨N - 1, by omega⟩
  have hF : fnsA 96 = some fn96' := rfl
  suffices hh : ∃ H, callN X (N + 1) (.d (.fn 96 [] [])) [strV s] [] = some (arcV s, H) by
    obtain ⟨H, hh⟩ := hh
    refine vcall_of hh ?_
    unfold arcV
    split <;> rfl
  rw [hX.fn hF]
  by_cases c1 : s.length = 0
  · have g1 : s = [] := List.length_eq_zero_iff.1 c1
    subst g1
    refine ⟨[], (rf_fin _ _ _ _ _ _ _ _ _ (by rfl)).trans ?_⟩
    have : arcV [] = .tup [.c (.d (u32D 0)), bl false] := by unfold arcV; rw [if_pos (.inl (.inl rfl))]
    rw [this]
    simp only [strV, u32D, binStr, Int.natCast_zero, evs, Nat.reduceSub]
  have g1 : (s == []) = false := by
    cases s with
    | nil => exact absurd rfl c1
    | cons _ _ => rfl
  by_cases c2 : (s.length : Int) > 10
  · refine ⟨[], (rf_fin _ _ _ _ _ _ _ _ _ (by rfl)).trans ?_⟩
    have : arcV s = .tup [.c (.d (u32D 0)), bl false] := by unfold arcV; rw [if_pos (.inl (.inr (.inl (by omega))))]
    rw [this]
    simp only [strV, u32D, binStr, g1, c2, Int.natCast_zero, evs, Nat.reduceSub]
  have h3 : s[0]? = some (s.getD 0 0) := by rw [List.getD_eq_getElem?_getD, List.getElem?_eq_getElem (by omega)]; rfl
  by_cases c3 : (s.length : Int) > 1 ∧ s.getD 0 0 = 48
  · refine ⟨[], (rf_fin _ _ _ _ _ _ _ _ _ (by rfl)).trans ?_⟩
    have : arcV s = .tup [.c (.d (u32D 0)), bl false] := by unfold arcV; rw [if_pos (.inl (.inr (.inr ⟨by omega, c3.2⟩)))]
    rw [this]
    rw [c3.2] at h3
    have g2 : (((48 : Nat) : Int) == 48) = true := rfl
    simp only [strV, u32D, binStr, g1, g2, c2, c3.1, h3, Int.natCast_zero, evs, Nat.reduceSub]
  have hoff : ¬ arcOff s := by unfold arcOff; omega
  have hsc := iter_find (js := some [0, 3, 4]) (hl := 0) (body := exec (zenv X N) N false fn96L0) (fun j => isDig (s.getD j 0) = false) s.length (fun j => ⟨[strV s, .any, .any, .c (.d (.int .u64 (numN 0 (s.take j) : Int))), i64 (j : Int), .any, .any, .any], []⟩) (b := 0) (s1 := ⟨[strV s, .any, .any, .c (.d (.int .u64 (numN 0 (s.take s.length) : Int))), i64 (s.length : Int), .any, bl false, .any], []⟩) (Q := fun k s => nth s.regs 1 = .c (.d (u32D 0)) ∧ nth s.regs 2 = bl false) (fuel := N) (by omega)
    (by
      intro j hj hp
      have hp : isDig (s.getD j 0) = true := by simpa using hp
      have q0 : s[j]? = some (s.getD j 0) := by rw [List.getD_eq_getElem?_getD, List.getElem?_eq_getElem hj]; rfl
      have q1 : numN 0 (s.take (j + 1)) = 10 * numN 0 (s.take j) + (s.getD j 0 - 48) := by
        rw [List.take_add_one, q0]
        exact numN_snoc _ _
      have hb : 48 ≤ s.getD j 0 ∧ s.getD j 0 ≤ 57 := by
        simpa [isDig, Nat.ble_eq] using hp
      have q2 : (j : Int) < (s.length : Int) := by omega
      have q3 := wrap_succ (k := j) (by omega)
      have q4 := numN_crude (s.take j) 0 (fun c hc => hby c (List.mem_of_mem_take hc))
      have q5 : (s.take j).length ≤ 9 := by rw [List.length_take]; omega
      have q6 : (0 + 30) * 10 ^ (s.take j).length ≤ (0 + 30) * 10 ^ 9 := Nat.mul_le_mul_left _ (Nat.pow_le_pow_right (by omega) q5)
      have q6 : numN 0 (s.take j) < 1000000000000 := by
        have : (0 + 30) * 10 ^ 9 = 30000000000 := rfl
        omega
      rw [q1]
      generalize numN 0 (s.take j) = acc at *
      generalize s.getD j 0 = c at *
      have q7 : IntKind.u64.wrap (10 * (acc : Int)) = ((10 * acc : Nat) : Int) := by
        rw [← wrap_u64 (n := 10 * acc) (by omega)]; rfl
      have q8 : IntKind.u8.wrap ((c : Int) - 48) = ((c - 48 : Nat) : Int) := by
        rw [← wrap_u8 (n := c - 48) (by omega)]; congr 1; omega
      have q9 : IntKind.u64.wrap ((c - 48 : Nat) : Int) = ((c - 48 : Nat) : Int) := wrap_u64 (by omega)
      have q10 : IntKind.u64.wrap (((10 * acc : Nat) : Int) + ((c - 48 : Nat) : Int)) = ((10 * acc + (c - 48) : Nat) : Int) := by
        rw [← wrap_u64 (n := 10 * acc + (c - 48)) (by omega)]; rfl
      have q11 : ¬ (c : Int) < 48 := by omega
      have q12 : ¬ (c : Int) > 57 := by omega
      refine ⟨⟨[strV s, .any, .any, .c (.d (.int .u64 ((10 * acc + (c - 48) : Nat) : Int))), i64 ((j + 1 : Nat) : Int), .any, bl true, bl false], []⟩, ?_, gc_le (Nat.le_refl 0)⟩
      simp only [fn96L0, strV, q0, q2, q3, q7, q8, q9, q10, q11, q12, evs])
    (by simp only [fn96L0, strV, evs])
    (by
      intro j hj hp
      have q0 : s[j]? = some (s.getD j 0) := by rw [List.getD_eq_getElem?_getD, List.getElem?_eq_getElem hj]; rfl
      have q2 : (j : Int) < (s.length : Int) := by omega
      by_cases c4 : (s.getD j 0 : Int) < 48
      · refine ⟨⟨[strV s, .c (.d (u32D 0)), bl false, .c (.d (.int .u64 (numN 0 (s.take j) : Int))), i64 (j : Int), .any, bl true, bl true], []⟩, ?_, rfl, rfl⟩
        simp only [fn96L0, strV, u32D, q0, q2, c4, Int.natCast_zero, evs]
      · have c5 : (s.getD j 0 : Int) > 57 := by
          have : ¬ isDig (s.getD j 0) = true := by rw [hp]; simp
          simp only [isDig, Bool.and_eq_true, Nat.ble_eq] at this
          omega
        refine ⟨⟨[strV s, .c (.d (u32D 0)), bl false, .c (.d (.int .u64 (numN 0 (s.take j) : Int))), i64 (j : Int), .any, bl true, bl true], []⟩, ?_, rfl, rfl⟩
        simp only [fn96L0, strV, u32D, q0, q2, c4, c5, Int.natCast_zero, evs])
  have n0 : numN 0 [] = 0 := rfl
  simp only [i64, bl, strV, List.take_zero, List.take_length, n0, Int.natCast_zero] at hsc
  rcases hsc with ⟨hno, hit⟩ | ⟨k, s', hk, hp, hno, ⟨hq1, hq2⟩, hit⟩
  · have hall : s.all isDig = true := by
      rw [List.all_eq_true]
      intro c hc
      obtain ⟨i, hi, rfl⟩ := List.getElem_of_mem hc
      have := hno i hi
      rw [List.getD_eq_getElem?_getD, List.getElem?_eq_getElem hi, Option.getD_some] at this
      simpa using this
    have : arcV s = .tup [.c (.d (u32D (numN 0 s % 4294967296))), bl (decide (numN 0 s < 4294967296))] := by
      unfold arcV
      rw [if_neg (by rintro (h | h); exact hoff h; exact h hall)]
    rw [this]
    have w1 := wrap_u32m (numN 0 s)
    have w2 : decide ((numN 0 s : Int) < 4294967296) = decide (numN 0 s < 4294967296) := by rw [decide_eq_decide]; omega
    refine ⟨[], (rf_fin _ _ _ _ _ _ _ _ _ (by rfl)).trans ?_⟩
    by_cases c6 : (s.length : Int) > 1
    · have g2 : ((s.getD 0 0 : Int) == 48) = false := by
        rw [beq_eq_false_iff_ne]
        intro h
        exact c3 ⟨c6, by omega⟩
      simp only [strV, u32D, binStr, g1, g2, c2, c6, h3, hit, w1, w2, evs, Nat.reduceAdd, Nat.reduceBEq, Nat.reduceSub]
    · simp only [strV, u32D, binStr, g1, c2, c6, hit, w1, w2, evs, Nat.reduceAdd, Nat.reduceBEq, Nat.reduceSub]
  · have hall : ¬ s.all isDig = true := by
      intro h
      rw [List.all_eq_true] at h
      have := h _ (List.getElem_mem hk)
      rw [List.getD_eq_getElem?_getD, List.getElem?_eq_getElem hk, Option.getD_some] at hp
      rw [hp] at this; cases this
    have : arcV s = .tup [.c (.d (u32D 0)), bl false] := by unfold arcV; rw [if_pos (.inr hall)]
    rw [this]
    refine ⟨s'.heap, (rf_fin _ _ _ _ _ _ _ _ _ (by rfl)).trans ?_⟩
    obtain ⟨r, H⟩ := s'
    simp only [u32D, Int.natCast_zero] at hq1 hq2
    by_cases c6 : (s.length : Int) > 1
    · have g2 : ((s.getD 0 0 : Int) == 48) = false := by
        rw [beq_eq_false_iff_ne]
        intro h
        exact c3 ⟨c6, by omega⟩
      simp only [strV, u32D, binStr, g1, g2, c2, c6, h3, hit, hq1, hq2, Int.natCast_zero, evs, Nat.reduceAdd, Nat.reduceBEq, Nat.reduceSub]
    · simp only [strV, u32D, binStr, g1, c2, c6, hit, hq1, hq2, Int.natCast_zero, evs, Nat.reduceAdd, Nat.reduceBEq, Nat.reduceSub]
end Mini
end Go.Proofs.YtgjlofpfbhioaaaGreatDoor
namespace Go.Proofs.YtgjlofpfbhioaaaGreatDoor
namespace Mini
open Go
/-- Rounds kept by an invariant, up to the one that leaves. -/
theorem iter_inv {js : Option (List Nat)} {hl : Nat} {body : St → Option (Ex × St)} (P : Nat → St → Prop) {e : Ex} (he : e ≠ .nrm) (Q : St → Prop) : ∀ (k i fuel : Nat) (s : St), P i s → (∀ j, i ≤ j → j < i + k → ∀ s, P j s → ∃ s', body s = some (.nrm, s') ∧ P (j + 1) (tidy hl js s')) → (∀ s, P (i + k) s → ∃ s', body s = some (e, s') ∧ Q s') → k < fuel → ∃ s', iter js hl body fuel s = some (e, s') ∧ Q s'
  | 0, i, fuel + 1, s, hp, _, h, _ => by
    obtain ⟨s', h1, h2⟩ := h s hp
    refine ⟨s', ?_, h2⟩
    simp only [iter, h1]
    cases e with
    | nrm => exact absurd rfl he
    | _ => rfl
  | k + 1, i, fuel + 1, s, hp, hr, h, hk => by
    obtain ⟨s', h1, h2⟩ := hr i (Nat.le_refl _) (by omega) s hp
    simp only [iter, h1]
    exact iter_inv P he Q k (i + 1) fuel _ h2 (fun j h3 h4 => hr j (by omega) (by omega)) (by rw [show i + 1 + k = i + (k + 1) by omega]; exact h) (by omega)
theorem splitN_neq (c : Nat) : ∀ s : List Nat, splitN c s ≠ []
  | [] => by simp [splitN]
  | x :: xs => by
    unfold splitN
    split
    · simp
    · split <;> simp
/-- The last word longer by a byte. -/
def addLast (l : List (List Nat)) (x : Nat) : List (List Nat) := l.dropLast ++ [(l.getLast?.getD []) ++ [x]]
theorem splitN_snoc (c x : Nat) : ∀ s : List Nat, splitN c (s ++ [x]) = if x = c then splitN c s ++ [[]] else addLast (splitN c s) x
  | [] => by
    by_cases h : x = c
    · simp [splitN, h]
    · simp [splitN, h, addLast]
  | y :: s => by
    have ih := splitN_snoc c x s
    have hne := splitN_neq c s
    rw [List.cons_append, splitN, splitN, ih]
    by_cases hy : y = c
    · rw [if_pos hy, if_pos hy]
      by_cases h : x = c
      · rw [if_pos h, if_pos h]; rfl
      · rw [if_neg h, if_neg h]
        unfold addLast
        cases hs : splitN c s with
        | nil => exact absurd hs hne
        | cons a l => simp
    · rw [if_neg hy, if_neg hy]
      cases hs : splitN c s with
      | nil => exact absurd hs hne
      | cons a l =>
        by_cases h : x = c
        · simp [h]
        · rw [if_neg h, if_neg h]
          unfold addLast
          cases l with
          | nil => simp
          | cons b l => simp
end Mini
end Go.Proofs.YtgjlofpfbhioaaaGreatDoor
namespace Go.Proofs.YtgjlofpfbhioaaaGreatDoor
namespace Mini
open Go
variable {m : Int} {X : Ctx}
theorem flD_len {α : Type} {f : α → List D} {k : Nat} : ∀ {l : List α}, (∀ x ∈ l, (f x).length = k) → (l.flatMap f).length = l.length * k
  | [], _ => by simp
  | x :: l, h => by
    rw [List.flatMap_cons, List.length_append, h x List.mem_cons_self, flD_len (fun y hy => h y (List.mem_cons_of_mem _ hy)), List.length_cons, Nat.succ_mul]
    omega
theorem flD_drop {α : Type} {f : α → List D} {k : Nat} : ∀ {l : List α} {i : Nat}, (∀ x ∈ l, (f x).length = k) → (l.flatMap f).drop (i * k) = (l.drop i).flatMap f
  | l, 0, _ => by simp
  | [], i + 1, _ => by simp
  | x :: l, i + 1, h => by
    rw [List.flatMap_cons, List.drop_succ_cons, show (i + 1) * k = k + i * k by rw [Nat.succ_mul]; omega, ← List.drop_drop]
    have hk := h x List.mem_cons_self
    rw [show List.drop k (f x ++ l.flatMap f) = l.flatMap f by rw [← hk]; simp]
    exact flD_drop (fun y hy => h y (List.mem_cons_of_mem _ hy))
theorem flD_take {α : Type} {f : α → List D} {k : Nat} : ∀ {l : List α} {i : Nat}, (∀ x ∈ l, (f x).length = k) → (l.flatMap f).take (i * k) = (l.take i).flatMap f
  | l, 0, _ => by simp
  | [], i + 1, _ => by simp
  | x :: l, i + 1, h => by
    have hk := h x List.mem_cons_self
    rw [List.flatMap_cons, List.take_succ_cons, List.flatMap_cons, show (i + 1) * k = (f x).length + i * k by rw [Nat.succ_mul, hk]; omega, List.take_append, Nat.add_sub_cancel_left, List.take_of_length_le (by omega), flD_take (fun y hy => h y (List.mem_cons_of_mem _ hy))]
theorem lt5_0 (n : Nat) : (0 < n + 1 + 1 + 1 + 1 + 1) = True := eq_true (by omega)
theorem lt5_1 (n : Nat) : (1 < n + 1 + 1 + 1 + 1 + 1) = True := eq_true (by omega)
theorem lt5_2 (n : Nat) : (2 < n + 1 + 1 + 1 + 1 + 1) = True := eq_true (by omega)
theorem lt5_3 (n : Nat) : (3 < n + 1 + 1 + 1 + 1 + 1) = True := eq_true (by omega)
theorem lt5_4 (n : Nat) : (4 < n + 1 + 1 + 1 + 1 + 1) = True := eq_true (by omega)
/-- An anchor: its name, the cell of its set, the set, the flags. -/
structure An where
  s : List Nat
  w : D
  l : List Oid
  e : Bool
  nm : Bool
  na : Bool
def An.ds (a : An) : List D := [.str a.s, a.w, .bool a.e, .bool a.nm, .bool a.na]
def a0 : An := ⟨[], .nils, [], false, false, false⟩
def isAns (w : D) (l : List An) : Prop := w = .nils ∧ l = [] ∨ w = .sl (l.flatMap An.ds) l.length
def wfA (a : An) : Prop := isSet a.w a.l ∧ wfS a.l ∧ a.s.length ≤ 300 ∧ a.l.length < 1000000
def wfAs (l : List An) : Prop := ∀ a ∈ l, wfA a
theorem getA_mem {l : List An} {i : Nat} (h : i < l.length) : l.getD i a0 ∈ l := by
  rw [List.getD_eq_getElem?_getD, List.getElem?_eq_getElem h]
  exact List.getElem_mem h
theorem wfAs.at {l : List An} (h : wfAs l) {i : Nat} (hi : i < l.length) : wfA (l.getD i a0) := h _ (getA_mem hi)
theorem isAns.len {w : D} {l : List An} (h : isAns w l) : lenc (.c (.d w)) = some (.c (.d (.int .i64 (l.length : Int))), []) := by
  rcases h with ⟨rfl, rfl⟩ | rfl <;> rfl
theorem dropA {l : List An} {i : Nat} (h : i < l.length) : l.drop i = l.getD i a0 :: l.drop (i + 1) := by
  rw [List.getD_eq_getElem?_getD, List.getElem?_eq_getElem h]
  exact List.drop_eq_getElem_cons h
theorem isAns.at {w : D} {l : List An} (h : isAns w l) {i : Nat} (hi : i < l.length) : ∃ t, ixac 5 i (.c (.d w)) = some (.c (.d (.ip (An.ds (l.getD i a0) ++ t))), []) := by
  rcases h with ⟨rfl, rfl⟩ | rfl
  · exact absurd hi (Nat.not_lt_zero _)
  · refine ⟨(l.drop (i + 1)).flatMap An.ds, ?_⟩
    have hl : (l.flatMap An.ds).length = l.length * 5 := flD_len (fun _ _ => rfl)
    rw [ixac, if_pos ⟨hi, by rw [hl]; omega⟩, flD_drop (f := An.ds) (k := 5) (fun _ _ => rfl), dropA hi, List.flatMap_cons]
theorem isAns.elems {w : D} {l : List An} (h : isAns w l) (H : Heap) : elems H 5 (.c (.d w)) = some (l.length, (l.flatMap An.ds).map .d) := by
  rcases h with ⟨rfl, rfl⟩ | rfl
  · rfl
  · simp only [Mini.elems, if_pos (show (l.flatMap An.ds).length = l.length * 5 from flD_len (fun _ _ => rfl))]

/-! ### The check of a list -/
def errAn (l : List An) (i : Nat) : Nat :=
  if chkA (l.getD i a0).s (l.getD i a0).l ≠ 0 then chkA (l.getD i a0).s (l.getD i a0).l
  else if i = 0 then 0
  else if strLess (l.getD (i - 1) a0).s (l.getD i a0).s = true then 0 else 13
def chkL (l : List An) : Nat := if 256 < l.length then 3 else firstE (errAn l) l.length
abbrev R34 (w : D) (l : List An) (i : Nat) : List V := [.c (.d w), .any, .any, .any, .any, .any, .c (.d w), i64 (l.length : Int), i64 (i : Int), .any, .any, .any]
theorem f34 (hX : XOk m X) {N : Nat} (hN : 401 ≤ N) {w : D} {l : List An} (hw : isAns w l) (hl : wfAs l) (hlen : l.length < 1000000) : vcallN X N 34 [.c (.d w)] = some (i64 (chkL l)) := by
  obtain ⟨N, rfl⟩ : ∃ M, N = M + 1 := ⟨N - 1, by omega⟩
  have hF : fnsA 34 = some fn34' := rfl
  suffices h : ∃ H, callN X (N + 1) (.d (.fn 34 [] [])) [.c (.d w)] [] = some (i64 (chkL l), H) by
    obtain ⟨H, h⟩ := h
    exact vcall_of h rfl
  rw [hX.fn hF]
  have hlw := hw.len
  by_cases c0 : (l.length : Int) > 256
  · refine ⟨[], (rf_fin _ _ _ _ _ _ _ _ _ (by rfl)).trans ?_⟩
    have : chkL l = 3 := by unfold chkL; rw [if_pos (by omega)]
    simp only [hlw, c0, this, Int.cast_ofNat_Int, ↓sp_len, evs, Nat.reduceSub]
  have hc : ∀ a, wfA a → (zenv X N).vcall 33 [.agg [.d (.str a.s), .d a.w, .d (.bool a.e), .d (.bool a.nm), .d (.bool a.na)]] = some (i64 (chkA a.s a.l)) := fun a ha => hX.vc (k := 33) (F := fn33) rfl (f33 hX (by omega) ha.2.2.1 ha.1 ha.2.1 ha.2.2.2)
  simp only [i64] at hc
  have hsc := iter_find (js := some [0, 6, 7, 8]) (hl := 0) (body := exec (zenv X N) N false fn34L0) (fun j => errAn l j ≠ 0) l.length (fun i => ⟨R34 w l i, []⟩) (b := 0) (s1 := ⟨[.c (.d w), .any, .any, .any, .any, .any, .c (.d w), i64 (l.length : Int), i64 (l.length : Int), bl false, .any, .any], []⟩) (Q := fun k s => nth s.regs 1 = i64 (errAn l k)) (fuel := N) (by omega)
    (by
      intro j hj hp
      have ho := hl.at hj
      obtain ⟨t, h1⟩ := hw.at hj
      have h3 := hc _ ho
      have h4 : (j : Int) < (l.length : Int) := by omega
      have h5 := wrap_succ (k := j) (by omega)
      unfold errAn at hp
      generalize l.getD j a0 = a at *
      have hz : chkA a.s a.l = 0 := by
        by_cases hz : chkA a.s a.l = 0
        · exact hz
        · rw [if_pos hz] at hp; exact absurd hz hp
      simp only [hz, Int.natCast_zero] at h3
      rw [if_neg (by rw [hz]; simp)] at hp
      simp only [An.ds] at h1
      by_cases hj0 : j = 0
      · have h7 : ¬ (j : Int) > 0 := by omega
        refine ⟨⟨[.c (.d w), .any, i64 (j : Int), .c (.ptr 0 0 0), i64 0, .any, .c (.d w), i64 (l.length : Int), i64 ((j + 1 : Nat) : Int), bl true, bl false, bl false], [.cells [.d (.str a.s), .d a.w, .d (.bool a.e), .d (.bool a.nm), .d (.bool a.na)] 0 false]⟩, ?_, gc_yes rfl rfl⟩
        simp only [fn34L0, ob?, h1, h3, h4, h5, h7, List.take, List.drop, List.map_cons, List.map_nil, ↓sp_ixa, evs, Nat.reduceAdd]
      · have h7 : (j : Int) > 0 := by omega
        have h8 : IntKind.i64.wrap ((j : Int) - 1) = ((j - 1 : Nat) : Int) := by rw [← wrap_nat (k := j - 1) (by omega)]; congr 1; omega
        obtain ⟨t', h9⟩ := hw.at (i := j - 1) (by omega)
        rw [if_neg hj0] at hp
        generalize l.getD (j - 1) a0 = q at *
        have hq : strLess q.s a.s = true := by
          by_cases c : strLess q.s a.s = true
          · exact c
          · rw [if_neg c] at hp; simp at hp
        simp only [An.ds] at h9
        refine ⟨⟨[.c (.d w), .any, i64 (j : Int), .c (.ptr 0 0 0), i64 0, .any, .c (.d w), i64 (l.length : Int), i64 ((j + 1 : Nat) : Int), bl true, bl false, bl false], [.cells [.d (.str a.s), .d a.w, .d (.bool a.e), .d (.bool a.nm), .d (.bool a.na)] 0 false]⟩, ?_, gc_yes rfl rfl⟩
        simp only [fn34L0, ob?, binStr, h1, h3, h4, h5, h7, h8, h9, hq, Bool.not_true, List.take, List.drop, List.map_cons, List.map_nil, lt5_0, ↓sp_ixa, evs, Nat.reduceAdd])
    (by simp only [fn34L0, evs])
    (by
      intro j hj hp
      have ho := hl.at hj
      obtain ⟨t, h1⟩ := hw.at hj
      have h3 := hc _ ho
      have h4 : (j : Int) < (l.length : Int) := by omega
      unfold errAn at hp
      have hQ : errAn l j = if chkA (l.getD j a0).s (l.getD j a0).l ≠ 0 then chkA (l.getD j a0).s (l.getD j a0).l else if j = 0 then 0 else if strLess (l.getD (j - 1) a0).s (l.getD j a0).s = true then 0 else 13 := rfl
      rw [hQ]
      generalize l.getD j a0 = a at *
      simp only [An.ds] at h1
      by_cases hz : chkA a.s a.l = 0
      · simp only [hz, Int.natCast_zero] at h3
        rw [if_neg (by rw [hz]; simp)] at hp
        rw [if_neg (by rw [hz]; simp)]
        by_cases hj0 : j = 0
        · rw [if_pos hj0] at hp; exact absurd rfl hp
        rw [if_neg hj0] at hp
        rw [if_neg hj0]
        have h7 : (j : Int) > 0 := by omega
        have h8 : IntKind.i64.wrap ((j : Int) - 1) = ((j - 1 : Nat) : Int) := by rw [← wrap_nat (k := j - 1) (by omega)]; congr 1; omega
        obtain ⟨t', h9⟩ := hw.at (i := j - 1) (by omega)
        generalize l.getD (j - 1) a0 = q at *
        have hq : strLess q.s a.s = false := by
          cases c : strLess q.s a.s
          · rfl
          · rw [if_pos c] at hp; exact absurd rfl hp
        simp only [An.ds] at h9
        rw [hq, if_neg (by simp)]
        refine ⟨⟨[.c (.d w), i64 13, i64 (j : Int), .c (.ptr 0 0 0), i64 0, .any, .c (.d w), i64 (l.length : Int), i64 (j : Int), bl true, bl false, bl true], [.cells [.d (.str a.s), .d a.w, .d (.bool a.e), .d (.bool a.nm), .d (.bool a.na)] 0 false]⟩, ?_, rfl⟩
        simp only [fn34L0, ob?, binStr, h1, h3, h4, h7, h8, h9, hq, Bool.not_false, List.take, List.drop, List.map_cons, List.map_nil, lt5_0, ↓sp_ixa, evs, Nat.reduceAdd]
      · have g1 : ((chkA a.s a.l : Int) != 0) = true := by rw [bne_iff_ne]; omega
        rw [if_pos hz]
        refine ⟨⟨[.c (.d w), i64 (chkA a.s a.l), i64 (j : Int), .c (.ptr 0 0 0), i64 (chkA a.s a.l), .any, .c (.d w), i64 (l.length : Int), i64 (j : Int), bl true, bl true, .any], [.cells [.d (.str a.s), .d a.w, .d (.bool a.e), .d (.bool a.nm), .d (.bool a.na)] 0 false]⟩, ?_, rfl⟩
        simp only [fn34L0, ob?, g1, h1, h3, h4, List.take, List.drop, List.map_cons, List.map_nil, ↓sp_ixa, evs, Nat.reduceAdd])
  simp only [i64, bl, R34, Int.natCast_zero] at hsc
  have hck : chkL l = firstE (errAn l) l.length := by unfold chkL; rw [if_neg (by omega)]
  rcases hsc with ⟨hno, hit⟩ | ⟨k, s', hk, hp, hno, hq, hit⟩
  · rw [hck, firstE_none _ _ hno]
    refine ⟨[], (rf_fin _ _ _ _ _ _ _ _ _ (by rfl)).trans ?_⟩
    simp only [hlw, c0, hit, Int.natCast_zero, ↓sp_len, evs, Nat.reduceAdd, Nat.reduceBEq, Nat.reduceSub]
  · rw [hck, firstE_hit _ hp hno _ hk]
    refine ⟨s'.heap, (rf_fin _ _ _ _ _ _ _ _ _ (by rfl)).trans ?_⟩
    obtain ⟨r, H⟩ := s'
    simp only [] at hq
    simp only [hlw, c0, hit, hq, ↓sp_len, evs, Nat.reduceAdd, Nat.reduceBEq, Nat.reduceSub]
end Mini
end Go.Proofs.YtgjlofpfbhioaaaGreatDoor
namespace Go.Proofs.YtgjlofpfbhioaaaGreatDoor
namespace Mini
open Go
variable {m : Int} {X : Ctx}
/-- A builder with text. -/
def Bld (H : Heap) (b i g : Nat) (s : List Nat) : Prop := H[b]? = some (.cells [.bt b 108, .os i g 0 s.length 1 none] 0 false) ∧ H[i]? = some (.cells (ofBytes s) g false) ∧ b ≠ i ∧ genK ≤ g
/-- What a write leaves as it was. -/
def Kept (H H' : Heap) (b i : Nat) : Prop := H.length ≤ H'.length ∧ ∀ k, k < H.length → k ≠ b → k ≠ i → H'[k]? = H[k]?
theorem Kept.trans {H H' H'' : Heap} {b i : Nat} (h1 : Kept H H' b i) (h2 : Kept H' H'' b i) : Kept H H'' b i := ⟨Nat.le_trans h1.1 h2.1, fun k hk h3 h4 => by rw [h2.2 k (Nat.lt_of_lt_of_le hk h1.1) h3 h4, h1.2 k hk h3 h4]⟩
theorem Kept.refl {H : Heap} {b i : Nat} : Kept H H b i := ⟨Nat.le_refl _, fun _ _ _ _ => rfl⟩
theorem some_lt {H : Heap} {i : Nat} {o : Ob} (h : H[i]? = some o) : i < H.length := (List.getElem?_eq_some_iff.1 h).1
theorem ofBytes_len (s : List Nat) : (ofBytes s).length = s.length := by simp [ofBytes]
theorem ofBytes_app (s t : List Nat) : ofBytes (s ++ t) = ofBytes s ++ ofBytes t := by simp [ofBytes]
/-- The two objects of a builder, written. -/
theorem bld_set {H : Heap} {b i g : Nat} {s : List Nat} (h : Bld H b i g s) (t : List Nat) (u : Heap) : Bld (((H ++ u).set i (.cells (ofBytes t) (g + 1) false)).set b (.cells [.bt b 108, .os i (g + 1) 0 t.length 1 none] 0 false)) b i (g + 1) t ∧ Kept H (((H ++ u).set i (.cells (ofBytes t) (g + 1) false)).set b (.cells [.bt b 108, .os i (g + 1) 0 t.length 1 none] 0 false)) b i := by
  obtain ⟨h1, h2, h3, h4⟩ := h
  have l1 := some_lt h1
  have l2 := some_lt h2
  refine ⟨⟨?_, ?_, h3, by omega⟩, ?_, ?_⟩
  · rw [List.getElem?_set_self (by simp; omega)]
  · rw [List.getElem?_set_ne h3, List.getElem?_set_self (by simp; omega)]
  · simp
  · intro k hk hb hi
    rw [List.getElem?_set_ne (Ne.symm hb), List.getElem?_set_ne (Ne.symm hi), List.getElem?_append_left hk]
theorem cc (hX : XOk m X) {n : Nat} {H : Heap} {b : Nat} {c : C} (h : ob? H b = some (.cells [.bt b 108, c] 0 false)) : callN X (n + 1) (.d (.fn 88 [] [])) [.c (.ptr b 0 0)] H = some (.tup [], H) := by
  refine hX.hp rfl ?_
  show ccV [.c (.ptr b 0 0)] H = _
  unfold ccV
  simp only [h, and_self, if_true]
theorem ex_freshb (E : Env) (N : Nat) (rd : Bool) (j o : Nat) (s : St) : exec E N rd (.freshb j o) s = some (.nrm, freshenB j o s) := rfl
theorem fsh_old {H : Heap} {b i g n : Nat} {r : List V} (hr : nth r 0 = .c (.ptr b 0 0)) (h : ob? H b = some (.cells [.bt b 108, .os i g 0 n 1 none] 0 false)) : freshenB 0 1 ⟨r, H⟩ = ⟨r, H⟩ := by
  unfold freshenB
  simp only [hr, h]
  rfl
theorem app_nil_bytes (s : List Nat) : s ++ ([] : List Nat) = s := List.append_nil s
theorem f59 (hX : XOk m X) {N : Nat} (hN : 2 ≤ N) {H : Heap} {b i g : Nat} {s t : List Nat} (h : Bld H b i g s) (ht : s.length + t.length ≤ 1073741824) : ∃ H' g', callN X N (.d (.fn 59 [] [])) [.c (.ptr b 0 0), strV t] H = some (.tup [i64 t.length, .c (.d .nili)], H') ∧ Bld H' b i g' (s ++ t) ∧ Kept H H' b i := by
  obtain ⟨N, rfl⟩ : ∃ M, N = M + 2 := ⟨N - 2, by omega⟩
  have hh := h
  obtain ⟨h1, h2, h3, h4⟩ := h
  have hf := fsh_old (r := [.c (.ptr b 0 0), strV t, .any, .any]) rfl (by rw [ob_eq]; exact h1)
  have hcc := cc hX (n := N) (by rw [ob_eq]; exact h1)
  have hlen := ofBytes_len s
  rw [hX.fn (F := fn59) rfl]
  by_cases c : t.length = 0
  · have hz : t = [] := List.length_eq_zero_iff.1 c
    subst hz
    refine ⟨H, g, (rf_fin _ _ _ _ _ _ _ _ _ (by rfl)).trans ?_, by rw [List.append_nil]; exact hh, Kept.refl⟩
    have hs : H.set b (.cells [.bt b 108, .os i g 0 s.length 1 none] 0 false) = H := set_same h1
    simp only [strV] at hf ⊢
    simp only [h1, h2, hf, hcc, hs, ex_freshb, elems, ofBytes, splice, List.take, List.drop, List.map_cons, List.map_nil, evs, Nat.reduceAdd, Nat.reduceLeDiff, Nat.reduceSub]
  · obtain ⟨k1, k2⟩ := bld_set hh (s ++ t) []
    refine ⟨_, _, (rf_fin _ _ _ _ _ _ _ _ _ (by rfl)).trans ?_, k1, k2⟩
    have hb : (H.set i (.cells (ofBytes s ++ ofBytes t) (g + 1) false))[b]? = some (.cells [.bt b 108, .os i g 0 s.length 1 none] 0 false) := by
      rw [List.getElem?_set_ne (Ne.symm h3), h1]
    have htk : (ofBytes s).take s.length = ofBytes s := List.take_of_length_le (by omega)
    rw [ofBytes_app]
    simp only [strV] at hf ⊢
    simp only [h1, h2, h4, hf, hcc, hb, htk, c, ht, hlen, ex_freshb, elems, splice, List.length_append, List.take, List.drop, List.map_cons, List.map_nil, Nat.le_refl, evs, Nat.reduceAdd, Nat.reduceSub]
theorem first59 (hX : XOk m X) {n : Nat} {H : Heap} {b : Nat} {v : V} (h : H[b]? = some (.cells [.bt b 108, .d .nils] 0 false)) : callN X (n + 1) (.d (.fn 59 [] [])) [.c (.ptr b 0 0), v] H = callN X (n + 1) (.d (.fn 59 [] [])) [.c (.ptr b 0 0), v] (H.set b (.cells [.bt b 108, .os H.length genK 0 0 1 none] 0 false) ++ [.cells [] genK false]) := by
  have hl := some_lt h
  have hF : fnsA 59 = some fn59 := rfl
  rw [hX.fn hF, hX.fn hF]
  refine (rf_fin _ _ _ _ _ _ _ _ _ (by rfl)).trans (Eq.trans ?_ (rf_fin _ _ _ _ _ _ _ _ _ (by rfl)).symm)
  have h1 : freshenB 0 1 ⟨pad 4 [.c (.ptr b 0 0), v], H⟩ = ⟨pad 4 [.c (.ptr b 0 0), v], H.set b (.cells [.bt b 108, .os H.length genK 0 0 1 none] 0 false) ++ [.cells [] genK false]⟩ := by
    unfold freshenB
    simp only [pad, nth, List.cons_append, ob_eq, h, setOb_eq, splice]
    rfl
  have h2 : freshenB 0 1 ⟨pad 4 [.c (.ptr b 0 0), v], H.set b (.cells [.bt b 108, .os H.length genK 0 0 1 none] 0 false) ++ [.cells [] genK false]⟩ = ⟨pad 4 [.c (.ptr b 0 0), v], H.set b (.cells [.bt b 108, .os H.length genK 0 0 1 none] 0 false) ++ [.cells [] genK false]⟩ := by
    refine fsh_old rfl (g := genK) (i := H.length) (n := 0) ?_
    rw [ob_eq, List.getElem?_append_left (by simp; omega), List.getElem?_set_self hl]
  rw [ex_seq, ex_seq, ex_freshb, ex_freshb, h1, h2]
theorem bld0 {H : Heap} {b : Nat} (hl : b < H.length) : Bld (H.set b (.cells [.bt b 108, .os H.length genK 0 0 1 none] 0 false) ++ [.cells [] genK false]) b H.length genK [] := by
  refine ⟨?_, ?_, by omega, Nat.le_refl _⟩
  · rw [List.getElem?_append_left (by simp; omega), List.getElem?_set_self hl]; rfl
  · rw [List.getElem?_append_right (by simp)]; simp [ofBytes]
theorem f60 (hX : XOk m X) {N : Nat} (hN : 2 ≤ N) {H : Heap} {b i g c : Nat} {s : List Nat} (h : Bld H b i g s) (ht : s.length + 1 ≤ 1073741824) : ∃ H' g', callN X N (.d (.fn 60 [] [])) [.c (.ptr b 0 0), .c (.d (.int .u8 (c : Int)))] H = some (.c (.d .nili), H') ∧ Bld H' b i g' (s ++ [c]) ∧ Kept H H' b i := by
  obtain ⟨N, rfl⟩ : ∃ M, N = M + 2 := ⟨N - 2, by omega⟩
  have hh := h
  obtain ⟨h1, h2, h3, h4⟩ := h
  have hf := fsh_old (r := [.c (.ptr b 0 0), .c (.d (.int .u8 (c : Int))), .any]) rfl (by rw [ob_eq]; exact h1)
  have hcc := cc hX (n := N) (by rw [ob_eq]; exact h1)
  have hlen := ofBytes_len s
  rw [hX.fn (F := fn60) rfl]
  obtain ⟨k1, k2⟩ := bld_set hh (s ++ [c]) [.cells [.d (.int .u8 (c : Int))] 0 false]
  refine ⟨_, _, (rf_fin _ _ _ _ _ _ _ _ _ (by rfl)).trans ?_, k1, k2⟩
  have l1 := some_lt h1
  have l2 := some_lt h2
  have e1 : (H ++ [Ob.cells [.d (.int .u8 (c : Int))] 0 false])[H.length]? = some (.cells [.d (.int .u8 (c : Int))] 0 false) := by simp
  have e2 : (H ++ [Ob.cells [.d (.int .u8 (c : Int))] 0 false])[i]? = some (.cells (ofBytes s) g false) := by rw [List.getElem?_append_left l2, h2]
  have hb : ((H ++ [Ob.cells [.d (.int .u8 (c : Int))] 0 false]).set i (.cells (ofBytes s ++ [.d (.int .u8 (c : Int))]) (g + 1) false))[b]? = some (.cells [.bt b 108, .os i g 0 s.length 1 none] 0 false) := by
    rw [List.getElem?_set_ne (Ne.symm h3), List.getElem?_append_left l1, h1]
  have htk : (ofBytes s).take s.length = ofBytes s := List.take_of_length_le (by omega)
  have hone : ofBytes [c] = [.d (.int .u8 (c : Int))] := rfl
  rw [ofBytes_app, hone]
  simp only [h1, h4, hf, hcc, hb, htk, e1, e2, ht, hlen, ex_freshb, elems, lay, rep, splice, List.length_append, List.take, List.drop, List.map_cons, List.map_nil, Nat.le_refl, evs, Nat.reduceAdd, Nat.reduceSub, reduceCtorEq]
theorem f63 (hX : XOk m X) {N : Nat} (hN : 1 ≤ N) {H : Heap} {b i g : Nat} {s : List Nat} (h : Bld H b i g s) : callN X N (.d (.fn 63 [] [])) [.c (.ptr b 0 0)] H = some (i64 s.length, H) := by
  obtain ⟨N, rfl⟩ : ∃ M, N = M + 1 := ⟨N - 1, by omega⟩
  obtain ⟨h1, h2, h3, h4⟩ := h
  rw [hX.fn (F := fn63) rfl]
  refine (rf_fin _ _ _ _ _ _ _ _ _ (by rfl)).trans ?_
  simp only [h1, List.take, List.drop, ↓sp_len, evs, Nat.reduceSub]
theorem byteX_of : ∀ {s : List Nat}, (∀ b ∈ s, b < 256) → mapO byteX (ofBytes s) = some s
  | [], _ => rfl
  | b :: s, h => by
    have ih := byteX_of (s := s) (fun x hx => h x (List.mem_cons_of_mem _ hx))
    have h1 := h b List.mem_cons_self
    unfold ofBytes at ih ⊢
    rw [List.map_cons, mapO, ih]
    have h2 : (0 : Int) ≤ (b : Int) ∧ (b : Int) < 256 := by omega
    simp only [byteX, Int.ofNat_eq_natCast, h2, and_self, if_true, Int.toNat_natCast]
theorem f64 (hX : XOk m X) {n : Nat} {H : Heap} {b i g : Nat} {s : List Nat} (h : Bld H b i g s) (hs : s ≠ []) (hb : ∀ c ∈ s, c < 256) (hl : s.length ≤ 1073741824) : callN X (n + 1) (.d (.fn 64 [] [])) [.c (.ptr b 0 0)] H = some (strV s, H.set i .dead) := by
  obtain ⟨h1, h2, h3, h4⟩ := h
  refine hX.hp rfl ?_
  show bsV [.c (.ptr b 0 0)] H = _
  unfold bsV
  have hlen := ofBytes_len s
  have hp : 0 < s.length := by
    rcases Nat.eq_zero_or_pos s.length with h | h
    · exact absurd (List.length_eq_zero_iff.1 h) hs
    · exact h
  have htk : (ofBytes s).take s.length = ofBytes s := List.take_of_length_le (by omega)
  simp only [ob_eq, h1, h2, h4, hp, hl, htk, hlen, byteX_of hb, setOb_eq, and_self, if_true, Nat.le_refl]
  rfl
theorem f64_nil (hX : XOk m X) {n : Nat} {H : Heap} {b : Nat} (h : H[b]? = some (.cells [.bt b 108, .d .nils] 0 false)) : callN X (n + 1) (.d (.fn 64 [] [])) [.c (.ptr b 0 0)] H = some (strV [], H) := by
  refine hX.hp rfl ?_
  show bsV [.c (.ptr b 0 0)] H = _
  unfold bsV
  simp only [ob_eq, h, if_true]
  rfl
/-- The place of a flag. -/
theorem f62 (hX : XOk m X) {N : Nat} (hN : 1 ≤ N) {H : Heap} {id k : Nat} (hk : k < 3) : callN X N (.d (.fn 62 [] [])) [.c (.ptr id 0 0), i64 (k : Int)] H = some (.c (.ptr id 0 (2 + k)), H) := by
  obtain ⟨N, rfl⟩ : ∃ M, N = M + 1 := ⟨N - 1, by omega⟩
  rw [hX.fn (F := fn62) rfl]
  refine (rf_fin _ _ _ _ _ _ _ _ _ (by rfl)).trans ?_
  have hk' : k = 0 ∨ k = 1 ∨ k = 2 := by omega
  rcases hk' with rfl | rfl | rfl <;>
    simp only [lay, splice, List.take, List.drop, List.map_cons, List.map_nil, evs, Nat.reduceAdd, Nat.reduceLeDiff, Nat.reduceLT, Nat.reduceSub]
end Mini
end Go.Proofs.YtgjlofpfbhioaaaGreatDoor
namespace Go.Proofs.YtgjlofpfbhioaaaGreatDoor
namespace Mini
open Go
variable {m : Int} {X : Ctx}
def eqA (a b : An) : Prop := a.s = b.s ∧ a.e = b.e ∧ a.nm = b.nm ∧ a.na = b.na ∧ a.l = b.l
instance (a b : An) : Decidable (eqA a b) := by unfold eqA; infer_instance
theorem eqA_refl (a : An) : eqA a a := ⟨rfl, rfl, rfl, rfl, rfl⟩
def alikeL (u v : List An) : Prop := u.length = v.length ∧ ∀ j, j < u.length → eqA (u.getD j a0) (v.getD j a0)
instance (u v : List An) : Decidable (alikeL u v) := by unfold alikeL; infer_instance
theorem beqS (s t : List Nat) : (s == t) = decide (s = t) := by
  by_cases h : s = t
  · subst h; simp
  · rw [decide_eq_false h]; simpa using h
set_option maxHeartbeats 2000000 in
theorem f29 (hX : XOk m X) {N : Nat} {w w' : D} {u v : List An} (hN : u.length + 400 ≤ N) (hw : isAns w u) (hw' : isAns w' v) (hu : wfAs u) (hv : wfAs v) (hlen : u.length < 1000000) (hul : ∀ a ∈ u, a.l.length ≤ 300) : vcallN X N 29 [.c (.d w), .c (.d w')] = some (i64 (if alikeL u v then 1 else 0)) := by
  obtain ⟨N, rfl⟩ : ∃ M, N = M + 1 := ⟨N - 1, by omega⟩
  have hF : fnsA 29 = some fn29' := rfl
  suffices h : ∃ H, callN X (N + 1) (.d (.fn 29 [] [])) [.c (.d w), .c (.d w')] [] = some (i64 (if alikeL u v then 1 else 0), H) by
    obtain ⟨H, h⟩ := h
    exact vcall_of h rfl
  rw [hX.fn hF]
  have hlw := hw.len
  have hlw' := hw'.len
  by_cases c0 : u.length = v.length
  case neg =>
    have g0 : ((u.length : Int) != (v.length : Int)) = true := by rw [bne_iff_ne]; omega
    have : ¬ alikeL u v := fun h => c0 h.1
    rw [if_neg this]
    refine ⟨[], (rf_fin _ _ _ _ _ _ _ _ _ (by rfl)).trans ?_⟩
    simp only [hlw, hlw', g0, ↓sp_len, evs, Nat.reduceAdd, Nat.reduceSub]
  have g0 : ((u.length : Int) != (v.length : Int)) = false := by rw [bne_eq_false_iff_eq]; omega
  have hsm : ∀ a b, a ∈ u → b ∈ v → (zenv X N).vcall 20 [.c (.d a.w), .c (.d b.w)] = some (i64 (if a.l = b.l then 1 else 0)) := fun a b ha hb => hX.vc (k := 20) (F := fn20) rfl (f20 hX (by have := hul a ha; omega) (hu a ha).1 (hv b hb).1 (hu a ha).2.1 (hv b hb).2.1 (hu a ha).2.2.2)
  simp only [i64] at hsm
  have b1 : (true ^^ (true == true)) = false := rfl
  have b2 : (true ^^ (true == false)) = true := rfl
  have b3 : (true ^^ (false == true)) = true := rfl
  have b4 : (true ^^ (false == false)) = false := rfl
  have b5 : ((1 : Int) == 0) = false := rfl
  have hsc := iter_find (js := some [0, 1, 3]) (hl := 0) (body := exec (zenv X N) N false fn29L0) (fun j => ¬ eqA (u.getD j a0) (v.getD j a0)) u.length (fun i => ⟨[.c (.d w), .c (.d w'), .any, i64 (i : Int), .any, .any, .any], []⟩) (b := 0) (s1 := ⟨[.c (.d w), .c (.d w'), .any, i64 (u.length : Int), .any, bl false, .any], []⟩) (Q := fun k s => nth s.regs 2 = i64 0 ∧ s.heap = []) (fuel := N) (by omega)
    (by
      intro j hj hp
      have hp := Decidable.not_not.1 hp
      obtain ⟨t, h1⟩ := hw.at hj
      obtain ⟨t', h2⟩ := hw'.at (i := j) (by omega)
      have h3 := hsm _ _ (getA_mem hj) (getA_mem (l := v) (i := j) (by omega))
      have h4 : (j : Int) < (u.length : Int) := by omega
      have h5 := wrap_succ (k := j) (by omega)
      generalize u.getD j a0 = a at *
      generalize v.getD j a0 = b at *
      obtain ⟨sa, aw, al, ae, an, aa⟩ := a
      obtain ⟨sb, bw, bl', be, bn, ba⟩ := b
      obtain ⟨p1, p2, p3, p4, p5⟩ := hp
      simp only at p1 p2 p3 p4 p5
      subst p1; subst p2; subst p3; subst p4; subst p5
      simp only [An.ds, if_true] at h1 h2 h3
      refine ⟨⟨[.c (.d w), .c (.d w'), .any, i64 ((j + 1 : Nat) : Int), .any, bl true, bl false], []⟩, ?_, gc_le (Nat.le_refl 0)⟩
      have bb : ∀ x : Bool, (true ^^ (x == x)) = false := fun x => by cases x <;> rfl
      simp only [fn29L0, binStr, hlw, h1, h2, h3, h4, h5, b5, Bool.not_true, List.take, List.drop, List.map_cons, List.map_nil, lt5_0, lt5_1, lt5_2, lt5_3, lt5_4, ↓sp_len, ↓sp_ixa, evs])
    (by simp only [fn29L0, hlw, ↓sp_len, evs])
    (by
      intro j hj hp
      obtain ⟨t, h1⟩ := hw.at hj
      obtain ⟨t', h2⟩ := hw'.at (i := j) (by omega)
      have h3 := hsm _ _ (getA_mem hj) (getA_mem (l := v) (i := j) (by omega))
      have h4 : (j : Int) < (u.length : Int) := by omega
      generalize u.getD j a0 = a at *
      generalize v.getD j a0 = b at *
      obtain ⟨sa, aw, al, ae, an, aa⟩ := a
      obtain ⟨sb, bw, bl', be, bn, ba⟩ := b
      simp only [An.ds] at h1 h2 h3
      refine ⟨⟨[.c (.d w), .c (.d w'), i64 0, i64 (j : Int), .any, bl true, bl true], []⟩, ?_, rfl, rfl⟩
      have bb : ∀ x : Bool, (true ^^ (x == x)) = false := fun x => by cases x <;> rfl
      have bn' : ∀ x y : Bool, x ≠ y → (true ^^ (x == y)) = true := fun x y h => by cases x <;> cases y <;> first | rfl | exact absurd rfl h
      by_cases p1 : sa = sb
      · subst p1
        by_cases p2 : ae = be
        · subst p2
          by_cases p3 : an = bn
          · subst p3
            by_cases p4 : aa = ba
            · subst p4
              have p5 : ¬ al = bl' := fun h => hp ⟨rfl, rfl, rfl, rfl, h⟩
              simp only [if_neg p5] at h3
              simp only [fn29L0, binStr, hlw, h1, h2, h3, h4, Bool.not_true, List.take, List.drop, List.map_cons, List.map_nil, lt5_0, lt5_1, lt5_2, lt5_3, lt5_4, ↓sp_len, ↓sp_ixa, evs]
            · have q := bn' _ _ p4
              simp only [fn29L0, binStr, hlw, h1, h2, h4, q, Bool.not_true, List.take, List.drop, List.map_cons, List.map_nil, lt5_0, lt5_2, lt5_3, lt5_4, ↓sp_len, ↓sp_ixa, evs]
          · have q := bn' _ _ p3
            simp only [fn29L0, binStr, hlw, h1, h2, h4, q, Bool.not_true, List.take, List.drop, List.map_cons, List.map_nil, lt5_0, lt5_2, lt5_3, ↓sp_len, ↓sp_ixa, evs]
        · have q := bn' _ _ p2
          simp only [fn29L0, binStr, hlw, h1, h2, h4, q, Bool.not_true, List.take, List.drop, List.map_cons, List.map_nil, lt5_0, lt5_2, ↓sp_len, ↓sp_ixa, evs]
      · have q : (sa == sb) = false := by rw [beqS]; exact decide_eq_false p1
        simp only [fn29L0, binStr, hlw, h1, h2, h4, q, Bool.not_false, List.take, List.drop, List.map_cons, List.map_nil, lt5_0, ↓sp_len, ↓sp_ixa, evs])
  simp only [i64, bl, Int.natCast_zero] at hsc
  rcases hsc with ⟨hno, hit⟩ | ⟨k, s', hk, hp, hno, ⟨hq, hqh⟩, hit⟩
  · have : alikeL u v := ⟨c0, fun j hj => Decidable.not_not.1 (hno j hj)⟩
    rw [if_pos this]
    refine ⟨[], (rf_fin _ _ _ _ _ _ _ _ _ (by rfl)).trans ?_⟩
    simp only [hlw, hlw', g0, hit, ↓sp_len, evs, Nat.reduceAdd, Nat.reduceBEq, Nat.reduceSub]
  · have : ¬ alikeL u v := fun h => hp (h.2 k hk)
    rw [if_neg this]
    refine ⟨s'.heap, (rf_fin _ _ _ _ _ _ _ _ _ (by rfl)).trans ?_⟩
    obtain ⟨r, H⟩ := s'
    simp only [] at hq
    simp only [hlw, hlw', g0, hit, hq, ↓sp_len, evs, Nat.reduceAdd, Nat.reduceBEq, Nat.reduceSub]
end Mini
end Go.Proofs.YtgjlofpfbhioaaaGreatDoor
namespace Go.Proofs.YtgjlofpfbhioaaaGreatDoor
namespace Mini
open Go
variable {m : Int} {X : Ctx}
def wExp : List Nat := [101, 120, 112, 108, 105, 99, 105, 116]
def wMap : List Nat := [110, 111, 109, 97, 112, 112, 105, 110, 103]
def wAny : List Nat := [110, 111, 97, 110, 121]
def ancT : List Nat := [97, 110, 99, 104, 111, 114, 32]
def setT (l : List Oid) : List Nat := joinN [44] (l.map textO)
def fl0 (a : An) : List Nat := if a.e then 32 :: wExp else []
def fl1 (a : An) : List Nat := if a.nm then 32 :: wMap else []
def fl2 (a : An) : List Nat := if a.na then 32 :: wAny else []
def textA (a : An) : List Nat := ancT ++ a.s ++ [32] ++ setT a.l ++ fl0 a ++ fl1 a ++ fl2 a ++ [10]
def textL (l : List An) : List Nat := l.flatMap textA
theorem textO_len (o : Oid) (h : o.1 ≤ 16) : (textO o).length ≤ 352 := by
  have := joinN_len [46] 21 ((arcsO o).map decN) (fun x hx => by
    obtain ⟨n, _, rfl⟩ := List.mem_map.1 hx
    exact (decF_len 20 n).1)
  have h2 : ((arcsO o).map decN).length ≤ 16 := by rw [List.length_map, arcsO, List.length_take]; omega
  simp only [List.length_cons, List.length_nil] at this
  unfold textO
  omega
theorem joinN_mem (sep : List Nat) {c : Nat} : ∀ {l : List (List Nat)}, c ∈ joinN sep l → c ∈ sep ∨ ∃ x ∈ l, c ∈ x
  | [], h => by simp [joinN] at h
  | [x], h => .inr ⟨x, by simp, by simpa [joinN] using h⟩
  | x :: y :: l, h => by
    rw [joinN, List.mem_append, List.mem_append] at h
    rcases h with (h | h) | h
    · exact .inr ⟨x, by simp, h⟩
    · exact .inl h
    · rcases joinN_mem sep h with h | ⟨z, h1, h2⟩
      · exact .inl h
      · exact .inr ⟨z, List.mem_cons_of_mem _ h1, h2⟩
theorem textO_byte (o : Oid) : ∀ c ∈ textO o, c < 256 := fun c hc => by
  rcases joinN_mem [46] hc with h | ⟨x, h1, h2⟩
  · rw [List.mem_singleton] at h; omega
  · obtain ⟨n, _, rfl⟩ := List.mem_map.1 h1
    exact decF_byte 20 n c h2
theorem setT_byte (l : List Oid) : ∀ c ∈ setT l, c < 256 := fun c hc => by
  rcases joinN_mem [44] hc with h | ⟨x, h1, h2⟩
  · rw [List.mem_singleton] at h; omega
  · obtain ⟨o, _, rfl⟩ := List.mem_map.1 h1
    exact textO_byte o c h2
theorem setT_len (l : List Oid) (h : ∀ o ∈ l, o.1 ≤ 16) : (setT l).length ≤ l.length * 353 := by
  have := joinN_len [44] 352 (l.map textO) (fun x hx => by
    obtain ⟨o, ho, rfl⟩ := List.mem_map.1 hx
    exact textO_len o (h o ho))
  simpa [setT] using this
/-- What an anchor without an error is. -/
theorem nameB_ok {s : List Nat} (h : nameB s = true) : 0 < s.length ∧ s.length ≤ 32 ∧ ∀ c ∈ s, okB c = true := by
  simp only [nameB, Bool.and_eq_true, decide_eq_true_eq, List.all_eq_true] at h
  exact ⟨h.1.1.1, h.1.1.2, h.2⟩
theorem okB_byte {c : Nat} (h : okB c = true) : c < 256 := by
  simp only [okB, letB, digB, Bool.or_eq_true, Bool.and_eq_true, decide_eq_true_eq] at h
  omega
theorem chkA_name {s : List Nat} {l : List Oid} (h : chkA s l = 0) : nameB s = true := by
  unfold chkA at h
  cases hn : nameB s
  · rw [hn] at h; cases h
  · rfl
theorem chkA_ne {s : List Nat} {l : List Oid} (h : chkA s l = 0) : l ≠ [] := by
  intro hl
  have h1 := chkA_name h
  have h2 := chkA_zero h
  unfold chkA at h
  rw [if_neg (by rw [h1]; simp), if_neg (by rw [h2]; simp), if_pos (by rw [hl]; rfl)] at h
  cases h
theorem firstE_zero {f : Nat → Nat} {n : Nat} (h : firstE f n = 0) : ∀ j, j < n → f j = 0 := by
  rcases first_lt (fun j => f j ≠ 0) n with h1 | ⟨k, h1, h2, h3⟩
  · exact fun j hj => Decidable.not_not.1 (h1 j hj)
  · rw [firstE_hit f h2 h3 n h1] at h; exact absurd h h2
theorem chkS_len {l : List Oid} (h : chkS l = 0) : l.length ≤ 256 := by
  unfold chkS at h
  split at h
  · cases h
  · omega
theorem chkS_ok {l : List Oid} (h : chkS l = 0) : ∀ o ∈ l, chkO o = 0 := fun o ho => by
  have hl := chkS_len h
  obtain ⟨i, hi, rfl⟩ := mem_getD ho
  unfold chkS at h
  rw [if_neg (by omega)] at h
  have := firstE_zero h i hi
  unfold errAt at this
  by_cases hz : chkO (l.getD i o0) = 0
  · exact hz
  · rw [if_pos hz] at this; exact this
theorem chkO_n {o : Oid} (h : chkO o = 0) : 2 ≤ o.1 ∧ o.1 ≤ 16 := by
  unfold chkO at h
  split at h
  · cases h
  · omega
theorem chkL_at {l : List An} (h : chkL l = 0) : ∀ a ∈ l, chkA a.s a.l = 0 := fun a ha => by
  obtain ⟨i, hi, rfl⟩ := List.getElem_of_mem ha
  unfold chkL at h
  split at h
  · cases h
  have := firstE_zero h i hi
  unfold errAn at this
  rw [List.getD_eq_getElem?_getD, List.getElem?_eq_getElem hi, Option.getD_some] at this
  by_cases hz : chkA l[i].s l[i].l = 0
  · exact hz
  · rw [if_pos hz] at this; exact this
theorem fl_len (a : An) : (fl0 a).length ≤ 9 ∧ (fl1 a).length ≤ 10 ∧ (fl2 a).length ≤ 6 := by
  unfold fl0 fl1 fl2
  refine ⟨?_, ?_, ?_⟩ <;> split <;> simp [wExp, wMap, wAny]
theorem textA_len {a : An} (h : chkA a.s a.l = 0) : 0 < (textA a).length ∧ (textA a).length ≤ 90500 := by
  have h1 := nameB_ok (chkA_name h)
  have h2 := chkA_zero h
  have h3 := chkS_len h2
  have h4 := setT_len a.l (fun o ho => (chkO_n (chkS_ok h2 o ho)).2)
  have h5 := fl_len a
  simp only [textA, ancT, List.length_append, List.length_cons, List.length_nil]
  omega
theorem fl_byte (a : An) : (∀ c ∈ fl0 a, c < 256) ∧ (∀ c ∈ fl1 a, c < 256) ∧ (∀ c ∈ fl2 a, c < 256) := by
  unfold fl0 fl1 fl2
  refine ⟨?_, ?_, ?_⟩ <;> split <;> simp [wExp, wMap, wAny]
theorem textA_byte {a : An} (h : chkA a.s a.l = 0) : ∀ c ∈ textA a, c < 256 := fun c hc => by
  have h1 := nameB_ok (chkA_name h)
  obtain ⟨h2, h3, h4⟩ := fl_byte a
  simp only [textA, List.mem_append] at hc
  rcases hc with (((((((h | h) | h) | h) | h) | h) | h) | h)
  · have : ∀ c ∈ ancT, c < 256 := by decide
    exact this c h
  · exact okB_byte (h1.2.2 c h)
  · rw [List.mem_singleton] at h; omega
  · exact setT_byte _ c h
  · exact h2 c h
  · exact h3 c h
  · exact h4 c h
  · rw [List.mem_singleton] at h; omega

/-! ### Writes and rounds -/
/-- Objects of the first generation stay. -/
def Kept0 (H H' : Heap) (b : Nat) : Prop := H.length ≤ H'.length ∧ ∀ k cs f, k ≠ b → H[k]? = some (.cells cs 0 f) → H'[k]? = some (.cells cs 0 f)
theorem Kept0.refl {H : Heap} {b : Nat} : Kept0 H H b := ⟨Nat.le_refl _, fun _ _ _ _ h => h⟩
theorem Kept0.trans {H H' H'' : Heap} {b : Nat} (h1 : Kept0 H H' b) (h2 : Kept0 H' H'' b) : Kept0 H H'' b := ⟨Nat.le_trans h1.1 h2.1, fun k cs f hk h => h2.2 k cs f hk (h1.2 k cs f hk h)⟩
theorem Kept.zero {H H' : Heap} {b i g : Nat} {s : List Nat} (hb : Bld H b i g s) (h : Kept H H' b i) : Kept0 H H' b := ⟨h.1, fun k cs f hk hc => by
  rw [h.2 k (some_lt hc) hk ?_, hc]
  rintro rfl
  have := hb.2.1
  rw [hc] at this
  have hg := hb.2.2.2
  simp only [Option.some.injEq, Ob.cells.injEq] at this
  have h2 : genK = 1000000 := rfl
  omega⟩
/-- A builder, written or not. -/
def BB (H : Heap) (b : Nat) (s : List Nat) : Prop := (H[b]? = some (.cells [.bt b 108, .d .nils] 0 false) ∧ s = []) ∨ ∃ i g, Bld H b i g s
theorem wr59 (hX : XOk m X) {N : Nat} (hN : 2 ≤ N) {H : Heap} {b : Nat} {s t : List Nat} (h : BB H b s) (ht : s.length + t.length ≤ 1073741824) : ∃ H' i g, callN X N (.d (.fn 59 [] [])) [.c (.ptr b 0 0), strV t] H = some (.tup [i64 t.length, .c (.d .nili)], H') ∧ Bld H' b i g (s ++ t) ∧ Kept0 H H' b := by
  rcases h with ⟨h, rfl⟩ | ⟨i, g, h⟩
  · obtain ⟨N, rfl⟩ : ∃ M, N = M + 1 := ⟨N - 1, by omega⟩
    rw [first59 hX h]
    have hl := some_lt h
    have hb := bld0 (H := H) hl
    obtain ⟨H', g', h1, h2, h3⟩ := f59 hX (N := N + 1) (by omega) hb ht
    refine ⟨H', _, g', h1, h2, Kept0.trans ⟨by simp, fun k cs f hk hc => ?_⟩ (h3.zero hb)⟩
    rw [List.getElem?_append_left (by rw [List.length_set]; exact some_lt hc), List.getElem?_set_ne (Ne.symm hk), hc]
  · obtain ⟨H', g', h1, h2, h3⟩ := f59 hX hN h ht
    exact ⟨H', i, g', h1, h2, h3.zero h⟩
theorem tidy_keep {hl : Nat} {js : List Nat} {r : List V} {H : Heap} : ∃ H', tidy hl (some js) ⟨r, H⟩ = ⟨keepOnly js 0 r, H'⟩ ∧ (∀ k, k < hl → H'[k]? = H[k]?) ∧ (H' = H ∨ H' = H.take hl ∧ (H.take hl).all (Ob.under hl) = true ∧ (keepOnly js 0 r).all (V.under hl) = true) := by
  show ∃ H', gc hl ⟨keepOnly js 0 r, H⟩ = _ ∧ _
  unfold gc
  split
  · rename_i h
    rw [Bool.and_eq_true] at h
    exact ⟨_, rfl, fun k hk => by rw [List.getElem?_take_of_lt hk], .inr ⟨rfl, h.2, h.1⟩⟩
  · exact ⟨_, rfl, fun _ _ => rfl, .inl rfl⟩
end Mini
end Go.Proofs.YtgjlofpfbhioaaaGreatDoor
namespace Go.Proofs.YtgjlofpfbhioaaaGreatDoor
namespace Mini
open Go
variable {m : Int} {X : Ctx}
theorem Bld.grow {H u : Heap} {b i g : Nat} {s : List Nat} (h : Bld H b i g s) : Bld (H ++ u) b i g s := ⟨by rw [List.getElem?_append_left (some_lt h.1), h.1], by rw [List.getElem?_append_left (some_lt h.2.1), h.2.1], h.2.2⟩
theorem Kept0.grow {H u : Heap} {b : Nat} : Kept0 H (H ++ u) b := ⟨by simp, fun k cs f _ h => by rw [List.getElem?_append_left (some_lt h), h]⟩
abbrev R27b (w ws : D) (ia n jj nl j : Nat) : List V := [.any, .any, .any, .any, .c (.ptr 0 0 0), .c (.ptr ia 0 0), .any, .any, .any, .any, .any, .c (.d w), i64 (n : Int), i64 (jj : Int), .any, .c (.d ws), i64 (nl : Int), i64 (j : Int), .any, .any, .any, .any, .any, .any, .any]
theorem r27b (hX : XOk m X) {N : Nat} (hN : 50 ≤ N) {w ws : D} {l : List Oid} {ia n jj j i g : Nat} {H : Heap} {T : List Nat} (hw : isSet ws l) (hl : wfS l) (hck : ∀ o ∈ l, chkO o = 0) (hj : j < l.length) (hlen : l.length < 1000000) (hb : Bld H 0 i g T) (hT : T.length + 400 ≤ 1073741824) :
    ∃ H' g', exec (zenv X N) N false fn27L1 ⟨R27b w ws ia n jj l.length j, H⟩ = some (.nrm, ⟨[.any, .any, .any, .any, .c (.ptr 0 0 0), .c (.ptr ia 0 0), i64 (j : Int), .c (.ptr H.length 0 0), .any, .any, .any, .c (.d w), i64 (n : Int), i64 (jj : Int), .any, .c (.d ws), i64 (l.length : Int), i64 ((j + 1 : Nat) : Int), bl true, bl (decide ((j : Int) > 0)), .any, .any, .any, .any, .any], H'⟩) ∧ Bld H' 0 i g' (T ++ (if j = 0 then [] else [44]) ++ textO (l.getD j o0)) ∧ Kept0 H H' 0 := by
  have ho := hl.at hj
  have hco := hck _ (getD_mem hj)
  have h1 := hw.at hl hj
  have h2 := flatO_at hl hj
  have h4 : (j : Int) < (l.length : Int) := by omega
  have h5 := wrap_succ (k := j) (by omega)
  have h6 := oC_len ho
  have hd : ∀ o : Oid, List.map C.d (oD o) = oC o := fun _ => rfl
  have hm : ∀ (H : Heap) (o : Oid), mapO (deepC H deepMax) (oC o) = some (oD o) := fun H o => mapO_d H _ _
  generalize l.getD j o0 = o at *
  have h61 := hX.vc (k := 61) (F := fn61) rfl (f61 hX (N := N) (by omega) ho hco)
  have hto := textO_len o (chkO_n hco).2
  have hpos : 0 < H.length := some_lt hb.1
  have hb1 : Bld (H ++ [Ob.cells (oC o) 0 false]) 0 i g T := hb.grow
  have hk1 : Kept0 H (H ++ [Ob.cells (oC o) 0 false]) 0 := Kept0.grow
  have e1 : (H ++ [Ob.cells (oC o) 0 false])[H.length]? = some (.cells (oC o) 0 false) := by simp
  simp only [strV] at h61
  by_cases hj0 : j = 0
  · obtain ⟨H', g', q1, q2, q3⟩ := f59 hX (N := N) (by omega) hb1 (t := textO o) (by omega)
    refine ⟨H', g', ?_, ?_, hk1.trans (q3.zero hb1)⟩
    · have h7 : ¬ (j : Int) > 0 := by omega
      simp only [strV, i64] at q1
      simp only [fn27L1, R27b, h1, h2, h4, h5, h6, h7, hd, hm, h61, e1, q1, List.drop_zero, List.take_of_length_le (Nat.le_of_eq h6), List.map_cons, List.map_nil, ↓sp_ixa, evs]
    · rw [if_pos hj0, List.append_nil]; exact q2
  · obtain ⟨H2, g2, p1, p2, p3⟩ := f60 hX (N := N) (by omega) hb1 (c := 44) (by omega)
    have p4 := p3.zero hb1
    have e2 := p4.2 _ _ _ (by omega) e1
    obtain ⟨H', g', q1, q2, q3⟩ := f59 hX (N := N) (by omega) p2 (t := textO o) (by simp; omega)
    refine ⟨H', g', ?_, ?_, (hk1.trans p4).trans (q3.zero p2)⟩
    · have h7 : (j : Int) > 0 := by omega
      simp only [strV, i64, Int.cast_ofNat_Int] at p1 q1
      simp only [fn27L1, R27b, h1, h2, h4, h5, h6, h7, hd, hm, h61, e2, p1, q1, List.drop_zero, List.take_of_length_le (Nat.le_of_eq h6), List.map_cons, List.map_nil, ↓sp_ixa, evs]
    · rw [if_neg hj0]; exact q2
theorem setT_succ (l : List Oid) {j : Nat} (hj : j < l.length) : setT (l.take (j + 1)) = setT (l.take j) ++ (if j = 0 then [] else [44]) ++ textO (l.getD j o0) := by
  unfold setT
  have hx : l[j]? = some (l.getD j o0) := by rw [List.getD_eq_getElem?_getD, List.getElem?_eq_getElem hj]; rfl
  rw [List.take_add_one, hx, Option.toList_some, List.map_append, List.map_cons, List.map_nil, joinN_snoc]
  by_cases hz : j = 0
  · subst hz; simp [joinN]
  · have : ¬ (l.take j).map textO = [] := by
      intro h
      have := congrArg List.length h
      rw [List.length_map, List.length_take, List.length_nil] at this
      omega
    rw [if_neg this, if_neg hz, List.append_assoc]
theorem setT_take (l : List Oid) (h : ∀ o ∈ l, o.1 ≤ 16) (j : Nat) : (setT (l.take j)).length ≤ l.length * 353 := by
  have := setT_len (l.take j) (fun o ho => h o (List.mem_of_mem_take ho))
  rw [List.length_take] at this
  have h2 : min j l.length * 353 ≤ l.length * 353 := Nat.mul_le_mul_right _ (Nat.min_le_right _ _)
  exact Nat.le_trans this h2
/-- The policies of a line. -/
theorem it27b (hX : XOk m X) {N : Nat} (hN : 300 ≤ N) {w ws : D} {l : List Oid} {ia n jj i g hl0 : Nat} {H : Heap} {T : List Nat} {ca : List C} {fa : Bool} (hw : isSet ws l) (hl : wfS l) (hck : ∀ o ∈ l, chkO o = 0) (hlen : l.length ≤ 256) (hb : Bld H 0 i g T) (hT : T.length + 100000 ≤ 1073741824) (hh : hl0 = H.length) (hia : 0 < ia) (ha : H[ia]? = some (.cells ca 0 fa)) :
    ∃ s', iter (some [4, 5, 11, 12, 13, 15, 16, 17]) hl0 (exec (zenv X N) N false fn27L1) N ⟨R27b w ws ia n jj l.length 0, H⟩ = some (.exit 2, s') ∧ ∃ H' g', s' = ⟨[.any, .any, .any, .any, .c (.ptr 0 0 0), .c (.ptr ia 0 0), .any, .any, .any, .any, .any, .c (.d w), i64 (n : Int), i64 (jj : Int), .any, .c (.d ws), i64 (l.length : Int), i64 (l.length : Int), bl false, .any, .any, .any, .any, .any, .any], H'⟩ ∧ Bld H' 0 i g' (T ++ setT l) ∧ H'[ia]? = some (.cells ca 0 fa) := by
  have hil : i < hl0 := by rw [hh]; exact some_lt hb.2.1
  have h0l : 0 < hl0 := by rw [hh]; exact some_lt hb.1
  have hal : ia < hl0 := by rw [hh]; exact some_lt ha
  have hst := setT_take l (fun o ho => (chkO_n (hck o ho)).2)
  have hb0 : Bld H 0 i g (T ++ setT (l.take 0)) := by
    rw [List.take_zero, show setT [] = [] from rfl, List.append_nil]; exact hb
  refine iter_inv (js := some [4, 5, 11, 12, 13, 15, 16, 17]) (hl := hl0) (body := exec (zenv X N) N false fn27L1) (fun j s => ∃ H' g', s = ⟨R27b w ws ia n jj l.length j, H'⟩ ∧ Bld H' 0 i g' (T ++ setT (l.take j)) ∧ H'[ia]? = some (.cells ca 0 fa)) (e := .exit 2) (fun h => by cases h) (fun s' => ∃ H' g', s' = ⟨[.any, .any, .any, .any, .c (.ptr 0 0 0), .c (.ptr ia 0 0), .any, .any, .any, .any, .any, .c (.d w), i64 (n : Int), i64 (jj : Int), .any, .c (.d ws), i64 (l.length : Int), i64 (l.length : Int), bl false, .any, .any, .any, .any, .any, .any], H'⟩ ∧ Bld H' 0 i g' (T ++ setT l) ∧ H'[ia]? = some (.cells ca 0 fa)) l.length 0 N ⟨R27b w ws ia n jj l.length 0, H⟩ ⟨H, g, rfl, hb0, ha⟩ ?_ ?_ (by omega)
  · rintro j _ hj s ⟨H', g', rfl, hb', ha'⟩
    have hj : j < l.length := by omega
    have hs := hst j
    obtain ⟨H2, g2, q1, q2, q3⟩ := r27b hX (N := N) (by omega) (w := w) (ia := ia) (n := n) (jj := jj) hw hl hck hj (by omega) hb' (by rw [List.length_append]; omega)
    refine ⟨_, q1, ?_⟩
    obtain ⟨H3, t1, t2, _⟩ := tidy_keep (hl := hl0) (js := [4, 5, 11, 12, 13, 15, 16, 17]) (r := [.any, .any, .any, .any, .c (.ptr 0 0 0), .c (.ptr ia 0 0), i64 (j : Int), .c (.ptr H'.length 0 0), .any, .any, .any, .c (.d w), i64 (n : Int), i64 (jj : Int), .any, .c (.d ws), i64 (l.length : Int), i64 ((j + 1 : Nat) : Int), bl true, bl (decide ((j : Int) > 0)), .any, .any, .any, .any, .any]) (H := H2)
    refine ⟨H3, g2, t1, ?_, ?_⟩
    · rw [setT_succ l hj, ← List.append_assoc, ← List.append_assoc]
      exact ⟨by rw [t2 _ h0l]; exact q2.1, by rw [t2 _ hil]; exact q2.2.1, q2.2.2⟩
    · rw [t2 _ hal]; exact q3.2 _ _ _ (by omega) ha'
  · rintro s ⟨H', g', rfl, hb', ha'⟩
    rw [Nat.zero_add, List.take_length] at hb'
    refine ⟨⟨[.any, .any, .any, .any, .c (.ptr 0 0 0), .c (.ptr ia 0 0), .any, .any, .any, .any, .any, .c (.d w), i64 (n : Int), i64 (jj : Int), .any, .c (.d ws), i64 (l.length : Int), i64 (l.length : Int), bl false, .any, .any, .any, .any, .any, .any], H'⟩, ?_, H', g', rfl, hb', ha'⟩
    rw [Nat.zero_add]
    simp only [fn27L1, R27b, evs]
end Mini
end Go.Proofs.YtgjlofpfbhioaaaGreatDoor
namespace Go.Proofs.YtgjlofpfbhioaaaGreatDoor
namespace Mini
open Go
variable {m : Int} {X : Ctx}
abbrev wordsC3 : List C := [.d (.str wExp), .d (.str wMap), .d (.str wAny)]
abbrev R27a (w : D) (ia n jj k : Nat) : List V := [.any, .any, .any, .any, .c (.ptr 0 0 0), .c (.ptr ia 0 0), .any, .any, .any, .any, .any, .c (.d w), i64 (n : Int), i64 (jj : Int), .any, .any, .any, .any, .any, .any, .agg wordsC3, i64 (k : Int), .any, .any, .any]
def wordK (k : Nat) : List Nat := if k = 0 then wExp else if k = 1 then wMap else wAny
def flagK (a : An) (k : Nat) : Bool := if k = 0 then a.e else if k = 1 then a.nm else a.na
def flp (a : An) (k : Nat) : List Nat := if k = 0 then [] else if k = 1 then fl0 a else if k = 2 then fl0 a ++ fl1 a else fl0 a ++ fl1 a ++ fl2 a
def acC (a : An) : List C := [.d (.str a.s), .d a.w, .d (.bool a.e), .d (.bool a.nm), .d (.bool a.na)]
theorem r27a (hX : XOk m X) {N : Nat} (hN : 50 ≤ N) {w : D} {a : An} {ia n jj k i g : Nat} {H : Heap} {T : List Nat} {fa : Bool} (hk : k < 3) (hb : Bld H 0 i g T) (hT : T.length + 400 ≤ 1073741824) (ha : H[ia]? = some (.cells (acC a) 0 fa)) :
    ∃ H' g', exec (zenv X N) N false fn27L0 ⟨R27a w ia n jj k, H⟩ = some (.nrm, ⟨[.any, .any, .any, .any, .c (.ptr 0 0 0), .c (.ptr ia 0 0), .any, .any, i64 (k : Int), strV (wordK k), .any, .c (.d w), i64 (n : Int), i64 (jj : Int), .any, .any, .any, .any, .any, .any, .agg wordsC3, i64 ((k + 1 : Nat) : Int), bl true, bl (flagK a k), .any], H'⟩) ∧ Bld H' 0 i g' (T ++ (if flagK a k then 32 :: wordK k else [])) ∧ Kept0 H H' 0 := by
  have h62 := f62 hX (N := N) (by omega) (H := H) (id := ia) hk
  have h5 := wrap_succ (k := k) (by omega)
  have hkk : (k : Int) < 3 := by omega
  have hx : (wordsC3.drop k).take 1 = [.d (.str (wordK k))] := by
    have : k = 0 ∨ k = 1 ∨ k = 2 := by omega
    rcases this with rfl | rfl | rfl <;> rfl
  have hf : ((acC a).drop (2 + k)).take 1 = [.d (.bool (flagK a k))] := by
    have : k = 0 ∨ k = 1 ∨ k = 2 := by omega
    rcases this with rfl | rfl | rfl <;> rfl
  have hwl : (wordK k).length ≤ 20 := by
    have : k = 0 ∨ k = 1 ∨ k = 2 := by omega
    rcases this with rfl | rfl | rfl <;> decide
  generalize wordK k = wd at *
  generalize flagK a k = fk at *
  simp only [wordsC3] at hx
  simp only [i64] at h62
  cases fk with
  | false =>
    refine ⟨H, g, ?_, by rw [if_neg (by simp), List.append_nil]; exact hb, Kept0.refl⟩
    simp only [fn27L0, R27a, strV, h5, hk, hkk, hx, hf, ha, h62, List.map_cons, List.map_nil, evs]
  | true =>
    obtain ⟨H', g', q1, q2, q3⟩ := f59 hX (N := N) (by omega) hb (t := 32 :: wd) (by simp only [List.length_cons]; omega)
    refine ⟨H', g', ?_, by rw [if_pos rfl]; exact q2, q3.zero hb⟩
    have h8 : 1 + wd.length ≤ 1073741824 := by omega
    simp only [strV, i64] at q1
    simp only [fn27L0, R27a, binStr, strV, h5, h8, hk, hkk, hx, hf, ha, h62, q1, List.map_cons, List.map_nil, evs]
theorem flp_succ (a : An) {k : Nat} (hk : k < 3) : flp a (k + 1) = flp a k ++ (if flagK a k then 32 :: wordK k else []) := by
  have : k = 0 ∨ k = 1 ∨ k = 2 := by omega
  rcases this with rfl | rfl | rfl <;> simp [flp, flagK, wordK, fl0, fl1, fl2]
theorem flp_len (a : An) (k : Nat) : (flp a k).length ≤ 25 := by
  have := fl_len a
  unfold flp
  split
  · simp
  split
  · omega
  split
  · rw [List.length_append]; omega
  · rw [List.length_append, List.length_append]; omega
theorem it27a (hX : XOk m X) {N : Nat} (hN : 300 ≤ N) {w : D} {a : An} {ia n jj i g hl0 : Nat} {H : Heap} {T : List Nat} {fa : Bool} (hb : Bld H 0 i g T) (hT : T.length + 1000 ≤ 1073741824) (hh : hl0 = H.length) (hia : 0 < ia) (ha : H[ia]? = some (.cells (acC a) 0 fa)) :
    ∃ s', iter (some [4, 5, 11, 12, 13, 20, 21]) hl0 (exec (zenv X N) N false fn27L0) N ⟨R27a w ia n jj 0, H⟩ = some (.exit 4, s') ∧ ∃ H' g', s' = ⟨[.any, .any, .any, .any, .c (.ptr 0 0 0), .c (.ptr ia 0 0), .any, .any, .any, .any, .any, .c (.d w), i64 (n : Int), i64 (jj : Int), .any, .any, .any, .any, .any, .any, .agg wordsC3, i64 3, bl false, .any, .any], H'⟩ ∧ Bld H' 0 i g' (T ++ flp a 3) := by
  have hil : i < hl0 := by rw [hh]; exact some_lt hb.2.1
  have h0l : 0 < hl0 := by rw [hh]; exact some_lt hb.1
  have hal : ia < hl0 := by rw [hh]; exact some_lt ha
  refine iter_inv (fun j s => ∃ H' g', s = ⟨R27a w ia n jj j, H'⟩ ∧ Bld H' 0 i g' (T ++ flp a j) ∧ H'[ia]? = some (.cells (acC a) 0 fa)) (e := .exit 4) (by simp) _ 3 0 N _ ⟨H, g, rfl, by simpa [flp] using hb, ha⟩ ?_ ?_ (by omega)
  · rintro j _ hj s ⟨H', g', rfl, hb', ha'⟩
    have hj : j < 3 := by omega
    have hs := flp_len a j
    obtain ⟨H2, g2, q1, q2, q3⟩ := r27a hX (N := N) (by omega) (w := w) (ia := ia) (n := n) (jj := jj) (a := a) hj hb' (by rw [List.length_append]; omega) ha'
    refine ⟨_, q1, ?_⟩
    obtain ⟨H3, t1, t2, _⟩ := tidy_keep (hl := hl0) (js := [4, 5, 11, 12, 13, 20, 21]) (r := [.any, .any, .any, .any, .c (.ptr 0 0 0), .c (.ptr ia 0 0), .any, .any, i64 (j : Int), strV (wordK j), .any, .c (.d w), i64 (n : Int), i64 (jj : Int), .any, .any, .any, .any, .any, .any, .agg wordsC3, i64 ((j + 1 : Nat) : Int), bl true, bl (flagK a j), .any]) (H := H2)
    refine ⟨H3, g2, t1, ?_, ?_⟩
    · rw [flp_succ a hj, ← List.append_assoc]
      exact ⟨by rw [t2 _ h0l]; exact q2.1, by rw [t2 _ hil]; exact q2.2.1, q2.2.2⟩
    · rw [t2 _ hal]; exact q3.2 _ _ _ (by omega) ha'
  · rintro s ⟨H', g', rfl, hb', ha'⟩
    refine ⟨⟨[.any, .any, .any, .any, .c (.ptr 0 0 0), .c (.ptr ia 0 0), .any, .any, .any, .any, .any, .c (.d w), i64 (n : Int), i64 (jj : Int), .any, .any, .any, .any, .any, .any, .agg wordsC3, i64 3, bl false, .any, .any], H'⟩, ?_, H', g', rfl, hb'⟩
    rw [Nat.zero_add]
    have h9 : ¬ ((3 : Nat) : Int) < 3 := by omega
    simp only [fn27L0, R27a, Int.cast_ofNat_Int, evs]
/-- A line's round: the builder afterwards; whether the text has become too long. -/
abbrev R27 (w : D) (n j : Nat) : List V := [.any, .any, .any, .any, .c (.ptr 0 0 0), .any, .any, .any, .any, .any, .any, .c (.d w), i64 (n : Int), i64 (j : Int), .any, .any, .any, .any, .any, .any, .any, .any, .any, .any, .any]
theorem textA_flp (a : An) (T : List Nat) : T ++ (ancT ++ a.s ++ [32]) ++ setT a.l ++ flp a 3 ++ [10] = T ++ textA a := by
  simp [textA, flp, List.append_assoc]
theorem r27 (hX : XOk m X) {N : Nat} (hN : 300 ≤ N) {w : D} {l : List An} {j : Nat} {H : Heap} {T : List Nat} (hw : isAns w l) (hl : wfAs l) (hj : j < l.length) (hlen : l.length < 1000000) (hck : chkA (l.getD j a0).s (l.getD j a0).l = 0) (hb : BB H 0 T) (h0 : 0 < H.length) (hT : T.length ≤ 1048576) :
    ∃ s', exec (zenv X N) N false fn27L2 ⟨R27 w l.length j, H⟩ = some (if 1048576 < (T ++ textA (l.getD j a0)).length then .ret else .nrm, s') ∧ ∃ i g, Bld s'.heap 0 i g (T ++ textA (l.getD j a0)) ∧ (if 1048576 < (T ++ textA (l.getD j a0)).length then nth s'.regs 1 = strV [] ∧ nth s'.regs 2 = i64 3 else keepOnly [4, 11, 12, 13] 0 s'.regs = R27 w l.length (j + 1)) := by
  have ho := hl.at hj
  obtain ⟨t, h1⟩ := hw.at hj
  have h4 : (j : Int) < (l.length : Int) := by omega
  have h5 := wrap_succ (k := j) (by omega)
  generalize l.getD j a0 = a at *
  have k1 := nameB_ok (chkA_name hck)
  have k2 := chkA_zero hck
  have k3 := chkS_len k2
  have k4 := chkS_ok k2
  have k5 := setT_len a.l (fun o ho => (chkO_n (k4 o ho)).2)
  have k6 := flp_len a 3
  have hg : (zenv X N).glob 0 = some wordsD := by
    show X.glob 0 = _
    rw [CtxLe.glob (X := XA m) hX]; rfl
  have hb1 : BB (H ++ [Ob.cells (acC a) 0 false]) 0 T := by
    rcases hb with ⟨hb, rfl⟩ | ⟨i, g, hb⟩
    · exact .inl ⟨by rw [List.getElem?_append_left h0, hb], rfl⟩
    · exact .inr ⟨i, g, hb.grow⟩
  have e1 : (H ++ [Ob.cells (acC a) 0 false])[H.length]? = some (.cells (acC a) 0 false) := by simp
  obtain ⟨H2, i, g, q1, q2, q3⟩ := wr59 hX (N := N) (by omega) hb1 (t := ancT ++ a.s ++ [32]) (by simp only [ancT, List.length_append, List.length_cons, List.length_nil]; omega)
  have e2 := q3.2 _ _ _ (by omega) e1
  obtain ⟨s3, p1, H3, g3, rfl, p2, e3⟩ := it27b hX (N := N) (by omega) (w := w) (n := l.length) (jj := j) (ia := H.length) ho.1 ho.2.1 k4 k3 q2 (by simp only [ancT, List.length_append, List.length_cons, List.length_nil]; omega) rfl h0 e2
  obtain ⟨s4, u1, H4, g4, rfl, u2⟩ := it27a hX (N := N) (by omega) (w := w) (n := l.length) (jj := j) (ia := H.length) p2 (by simp only [ancT, List.length_append, List.length_cons, List.length_nil]; omega) rfl h0 e3
  obtain ⟨H5, g5, v1, v2, v3⟩ := f60 hX (N := N) (by omega) u2 (c := 10) (by simp only [ancT, List.length_append, List.length_cons, List.length_nil]; omega)
  rw [textA_flp] at v2
  have v4 := f63 hX (N := N) (by omega) v2
  have hgen : acC a = [.d (.str a.s), .d a.w, .d (.bool a.e), .d (.bool a.nm), .d (.bool a.na)] := rfl
  have hlw := ho.1.len
  have hsl : 7 + a.s.length ≤ 1073741824 := by omega
  have hsl2 : a.s.length ≤ 1073741816 := by omega
  have hsl3 : a.s.length ≤ 1073741817 := by omega
  have hw3 : wordsC3 = [.d (.str wExp), .d (.str wMap), .d (.str wAny)] := rfl
  simp only [ancT, List.cons_append, List.nil_append] at q1
  simp only [An.ds] at h1
  simp only [strV, i64, bl, R27b, R27a, wordsC3, wExp, wMap, wAny, Int.cast_ofNat_Int] at q1 p1 u1 v1 v4
  rw [hgen] at e1 e2 e3 q1
  by_cases c : 1048576 < (T ++ textA a).length
  · have c' : ((T ++ textA a).length : Int) > 1048576 := by omega
    rw [if_pos c]
    refine ⟨⟨[.any, strV [], i64 3, .any, .c (.ptr 0 0 0), .c (.ptr H.length 0 0), .any, .any, .any, .any, .any, .c (.d w), i64 (l.length : Int), i64 (j : Int), .any, .any, .any, .any, .any, .any, .agg wordsC3, i64 3, bl false, .any, bl true], H5⟩, ?_, i, g5, v2, by rw [if_pos c]; exact ⟨rfl, rfl⟩⟩
    simp only [fn27L2, R27, wordsC3, binStr, strV, wordsD, wExp, wMap, wAny, h1, h4, hg, hlw, hsl, hsl2, e1, e2, q1, p1, u1, v1, v4, c', List.take, List.drop, List.map_cons, List.map_nil, List.append_assoc, ↓sp_len, ↓sp_ixa, evs, Nat.reduceAdd, Nat.reduceLeDiff, Nat.reduceBEq]
  · have c' : ¬ ((T ++ textA a).length : Int) > 1048576 := by omega
    rw [if_neg c]
    refine ⟨⟨[.any, .any, .any, .any, .c (.ptr 0 0 0), .c (.ptr H.length 0 0), .any, .any, .any, .any, .any, .c (.d w), i64 (l.length : Int), i64 ((j + 1 : Nat) : Int), .any, .any, .any, .any, .any, .any, .agg wordsC3, i64 3, bl false, .any, bl false], H5⟩, ?_, i, g5, v2, by rw [if_neg c]; rfl⟩
    simp only [fn27L2, R27, wordsC3, binStr, wordsD, wExp, wMap, wAny, h1, h4, h5, hg, hlw, hsl, hsl2, e1, e2, q1, p1, u1, v1, v4, c', List.take, List.drop, List.map_cons, List.map_nil, List.append_assoc, ↓sp_len, ↓sp_ixa, evs, Nat.reduceAdd, Nat.reduceLeDiff, Nat.reduceBEq]
/-- The text of a list, and the error. -/
def textE (l : List An) : Nat := if chkL l ≠ 0 then chkL l else if 1048576 < (textL l).length then 3 else 0
def textS (l : List An) : List Nat := if textE l = 0 then textL l else []
theorem textL_succ (l : List An) {j : Nat} (hj : j < l.length) : textL (l.take (j + 1)) = textL (l.take j) ++ textA (l.getD j a0) := by
  have hx : l[j]? = some (l.getD j a0) := by rw [List.getD_eq_getElem?_getD, List.getElem?_eq_getElem hj]; rfl
  rw [List.take_add_one, hx, Option.toList_some, textL, List.flatMap_append]
  simp [textL]
theorem textL_mono (l : List An) (j k : Nat) (h : j ≤ k) : (textL (l.take j)).length ≤ (textL (l.take k)).length := by
  have : l.take k = l.take j ++ (l.take k).drop j := by
    conv => lhs; rw [← List.take_append_drop j (l.take k)]
    rw [List.take_take, Nat.min_eq_left h]
  rw [this, textL, textL, List.flatMap_append, List.length_append]
  omega
theorem f27 (hX : XOk m X) {N : Nat} (hN : 500 ≤ N) {w : D} {l : List An} (hw : isAns w l) (hl : wfAs l) (hlen : l.length < 1000000) : vcallN X N 27 [.c (.d w)] = some (.tup [strV (textS l), i64 (textE l)]) := by
  obtain ⟨N, rfl⟩ : ∃ M, N = M + 1 := ⟨N - 1, by omega⟩
  have hF : fnsA 27 = some fn27' := rfl
  have h34 := hX.vc (k := 34) (F := fn34) rfl (f34 hX (N := N) (by omega) hw hl hlen)
  have hlw := hw.len
  suffices h : ∃ H, callN X (N + 1) (.d (.fn 27 [] [])) [.c (.d w)] [] = some (.tup [strV (textS l), i64 (textE l)], H) by
    obtain ⟨H, h⟩ := h
    exact vcall_of h rfl
  rw [hX.fn hF]
  simp only [i64] at h34
  by_cases hc : chkL l = 0
  case neg =>
    have e1 : textE l = chkL l := by unfold textE; rw [if_pos hc]
    have e2 : textS l = [] := by unfold textS; rw [if_neg (by rw [e1]; exact hc)]
    have g1 : ((chkL l : Int) != 0) = true := by rw [bne_iff_ne]; omega
    refine ⟨[], (rf_fin _ _ _ _ _ _ _ _ _ (by rfl)).trans ?_⟩
    simp only [e1, e2, strV, h34, g1, evs, Nat.reduceSub]
  rw [hc] at h34
  have hat := chkL_at hc
  have hle : l.length ≤ 256 := by
    unfold chkL at hc
    split at hc
    · cases hc
    · omega
  have hB0 : ∀ s, BB [Ob.cells [.bt 0 108, .d .nils] 0 false] 0 s ↔ s = [] := fun s => by
    constructor
    · rintro (⟨_, h⟩ | ⟨i, g, h⟩)
      · exact h
      · have := h.1; simp at this
    · rintro rfl; exact .inl ⟨rfl, rfl⟩
  -- the state ahead of a line
  let P : Nat → St → Prop := fun j s => ∃ H, s = ⟨R27 w l.length j, H⟩ ∧ 0 < H.length ∧ ((j = 0 ∧ H = [Ob.cells [.bt 0 108, .d .nils] 0 false]) ∨ (0 < j ∧ ∃ i g, Bld H 0 i g (textL (l.take j))))
  have hstart : P 0 ⟨R27 w l.length 0, [Ob.cells [.bt 0 108, .d .nils] 0 false]⟩ := ⟨_, rfl, by simp, .inl ⟨rfl, rfl⟩⟩
  have hround : ∀ j, j < l.length → (textL (l.take j)).length ≤ 1048576 → ∀ s, P j s → ∃ s', exec (zenv X N) N false fn27L2 s = some (if 1048576 < (textL (l.take (j + 1))).length then .ret else .nrm, s') ∧ (if 1048576 < (textL (l.take (j + 1))).length then nth s'.regs 1 = strV [] ∧ nth s'.regs 2 = i64 3 else P (j + 1) (tidy 1 (some [4, 11, 12, 13]) s')) := by
    rintro j hj hT s ⟨H, rfl, h0, hb⟩
    have hbb : BB H 0 (textL (l.take j)) := by
      rcases hb with ⟨rfl, rfl⟩ | ⟨_, i, g, h⟩
      · exact .inl ⟨rfl, by simp [textL]⟩
      · exact .inr ⟨i, g, h⟩
    have hck := hat _ (getA_mem hj)
    obtain ⟨s', p1, i, g, p2, p3⟩ := r27 hX (N := N) (by omega) hw hl hj hlen hck hbb h0 hT
    rw [← textL_succ l hj] at p1 p2 p3
    refine ⟨s', p1, ?_⟩
    by_cases c : 1048576 < (textL (l.take (j + 1))).length
    · rw [if_pos c] at p3 ⊢; exact p3
    · rw [if_neg c] at p3 ⊢
      obtain ⟨r, H'⟩ := s'
      simp only at p2 p3
      obtain ⟨H3, t1, t2, t3⟩ := tidy_keep (hl := 1) (js := [4, 11, 12, 13]) (r := r) (H := H')
      have hne : H3 = H' := by
        rcases t3 with h | ⟨_, h, _⟩
        · exact h
        · exfalso
          have hp := p2.1
          cases H' with
          | nil => cases hp
          | cons o H' =>
            simp only [List.getElem?_cons_zero, Option.some.injEq] at hp
            subst hp
            have hi : 0 ≠ i := p2.2.2.1
            simp only [List.take_succ_cons, List.take_zero, List.all_cons, List.all_nil, Ob.under, undersC, C.under, Bool.and_true, Bool.and_eq_true, decide_eq_true_eq] at h
            omega
      rw [t1, p3, hne]
      exact ⟨H', rfl, Nat.lt_of_le_of_lt (Nat.zero_le _) (some_lt p2.1), .inr ⟨Nat.succ_pos j, i, g, p2⟩⟩
  have hend : ∀ s, P l.length s → ∃ s', exec (zenv X N) N false fn27L2 s = some (.exit 0, s') ∧ nth s'.regs 4 = .c (.ptr 0 0 0) ∧ s'.regs.length = 25 ∧ ((l.length = 0 ∧ s'.heap = [Ob.cells [.bt 0 108, .d .nils] 0 false]) ∨ (0 < l.length ∧ ∃ i g, Bld s'.heap 0 i g (textL (l.take l.length)))) := by
    rintro s ⟨H, rfl, h0, hb⟩
    refine ⟨⟨[.any, .any, .any, .any, .c (.ptr 0 0 0), .any, .any, .any, .any, .any, .any, .c (.d w), i64 (l.length : Int), i64 (l.length : Int), bl false, .any, .any, .any, .any, .any, .any, .any, .any, .any, .any], H⟩, ?_, rfl, rfl, hb⟩
    simp only [fn27L2, R27, evs]
  have g1 : (((0 : Nat) : Int) != 0) = false := rfl
  rcases first_lt (fun j => 1048576 < (textL (l.take (j + 1))).length) l.length with hno | ⟨k, hk, hp, hno⟩
  · have hsm : ∀ j, j ≤ l.length → (textL (l.take j)).length ≤ 1048576 := fun j hj => by
      cases j with
      | zero => simp [textL]
      | succ j => have := hno j (by omega); omega
    obtain ⟨s', hit, q1, q2, q3⟩ := iter_inv (js := some [4, 11, 12, 13]) (hl := 1) (body := exec (zenv X N) N false fn27L2) P (e := .exit 0) (by simp) _ l.length 0 N _ hstart
      (fun j _ hj s hs => by
        obtain ⟨s', p1, p2⟩ := hround j (by omega) (hsm j (by omega)) s hs
        rw [if_neg (hno j (by omega))] at p1 p2
        exact ⟨s', p1, p2⟩)
      (by rw [Nat.zero_add]; exact hend) (by omega)
    have hT := hsm _ (Nat.le_refl _)
    rw [List.take_length] at q3 hT
    have e1 : textE l = 0 := by unfold textE; rw [if_neg (by rw [hc]; simp), if_neg (by omega)]
    have e2 : textS l = textL l := by unfold textS; rw [if_pos e1]
    rw [e1, e2]
    obtain ⟨r, H⟩ := s'
    simp only at q1 q2 q3
    obtain ⟨N, rfl⟩ : ∃ M, N = M + 1 := ⟨N - 1, by omega⟩
    have h64 : ∃ H', callN X (N + 1) (.d (.fn 64 [] [])) [.c (.ptr 0 0 0)] H = some (strV (textL l), H') := by
      rcases q3 with ⟨h1, rfl⟩ | ⟨h1, i, g, h2⟩
      · have : l = [] := List.length_eq_zero_iff.1 h1
        subst this
        exact ⟨_, f64_nil hX rfl⟩
      · refine ⟨_, f64 hX h2 ?_ ?_ (by omega)⟩
        · intro he
          have hx := textL_succ l (j := 0) h1
          have hm := textL_mono l 1 l.length h1
          rw [List.take_length, he, show (1 : Nat) = 0 + 1 from rfl, hx, List.length_append] at hm
          have := (textA_len (hat _ (getA_mem h1))).1
          simp only [List.length_nil] at hm
          omega
        · intro c hcm
          obtain ⟨a, ha, hca⟩ := List.mem_flatMap.1 hcm
          exact textA_byte (hat a ha) c hca
    obtain ⟨H', h64⟩ := h64
    match r, q2 with
    | [x0, x1, x2, x3, x4, x5, x6, x7, x8, x9, x10, x11, x12, x13, x14, x15, x16, x17, x18, x19, x20, x21, x22, x23, x24], _ =>
      simp only [nth] at q1
      subst q1
      refine ⟨H', (rf_fin _ _ _ _ _ _ _ _ _ (by rfl)).trans ?_⟩
      simp only [strV, i64, R27, Int.natCast_zero] at hit h64 ⊢
      simp only [h34, hlw, hit, h64, Int.natCast_zero, List.map_cons, List.map_nil, ↓sp_len, evs, Nat.reduceAdd, Nat.reduceBEq, Nat.reduceSub]
  · have hsm : ∀ j, j ≤ k → (textL (l.take j)).length ≤ 1048576 := fun j hj => by
      cases j with
      | zero => simp [textL]
      | succ j => have := hno j (by omega); omega
    obtain ⟨s', hit, q1, q2⟩ := iter_inv (js := some [4, 11, 12, 13]) (hl := 1) (body := exec (zenv X N) N false fn27L2) P (e := .ret) (by simp) (fun s' => nth s'.regs 1 = strV [] ∧ nth s'.regs 2 = i64 3) k 0 N _ hstart
      (fun j _ hj s hs => by
        obtain ⟨s', p1, p2⟩ := hround j (by omega) (hsm j (by omega)) s hs
        rw [if_neg (hno j (by omega))] at p1 p2
        exact ⟨s', p1, p2⟩)
      (fun s hs => by
        rw [Nat.zero_add] at hs
        obtain ⟨s', p1, p2⟩ := hround k hk (hsm k (Nat.le_refl _)) s hs
        rw [if_pos hp] at p1 p2
        exact ⟨s', p1, p2⟩) (by omega)
    have hbig : 1048576 < (textL l).length := by
      have := textL_mono l (k + 1) l.length (by omega)
      rw [List.take_length] at this
      omega
    have e1 : textE l = 3 := by unfold textE; rw [if_neg (by rw [hc]; simp), if_pos hbig]
    have e2 : textS l = [] := by unfold textS; rw [if_neg (by rw [e1]; simp)]
    rw [e1, e2]
    obtain ⟨r, H⟩ := s'
    simp only at q1 q2
    refine ⟨H, (rf_fin _ _ _ _ _ _ _ _ _ (by rfl)).trans ?_⟩
    simp only [strV, i64, R27, Int.natCast_zero] at hit q1 q2 ⊢
    simp only [h34, hlw, hit, q1, q2, Int.cast_ofNat_Int, ↓sp_len, evs, Nat.reduceAdd, Nat.reduceBEq, Nat.reduceSub]
end Mini
end Go.Proofs.YtgjlofpfbhioaaaGreatDoor
namespace Go.Proofs.YtgjlofpfbhioaaaGreatDoor
namespace Mini
open Go
variable {m : Int} {X : Ctx}
abbrev zA : List C := [.d (.str []), .d .nils, .d (.bool false), .d (.bool false), .d (.bool false)]
theorem f67v (hX : XOk m X) {N : Nat} (hN : 1 ≤ N) {w : D} {l : List Oid} (hw : isSet w l) (hl : wfS l) (hlen : l.length < 1000000) : ∃ w', (zenv X N).vcall 67 [.c (.d w)] = some (.c (.d w')) ∧ isSet w' l := by
  have h := f67 hX (N := N) hN (v := .c (.d w)) (H := []) hl hlen hw.len (fun t => hw.elems hl _)
  obtain ⟨r, t, h2, hr⟩ := exR_ok [] l
  obtain ⟨x, hdx, hx⟩ := hr.deep hl
  rw [h2] at h
  exact ⟨x, hX.vc (k := 67) (F := fn67) rfl (vcall_of h (by rcases hr with ⟨_, rfl⟩ | ⟨id, rfl, _⟩ <;> exact hdx)), hx⟩
theorem f42a (hX : XOk m X) {N : Nat} (hN : 500 ≤ N) {w : D} {l : List An} {name : List Nat} (hw : isAns w l) (hl : wfAs l) (hlen : l.length < 1000000) (hc : chkL l ≠ 0) : vcallN X N 42 [.c (.d w), strV name] = some (.tup [.agg zA, i64 (chkL l)]) := by
  obtain ⟨N, rfl⟩ : ∃ M, N = M + 1 := ⟨N - 1, by omega⟩
  have hF : fnsA 42 = some fn42' := rfl
  have h34 := hX.vc (k := 34) (F := fn34) rfl (f34 hX (N := N) (by omega) hw hl hlen)
  suffices h : ∃ H, callN X (N + 1) (.d (.fn 42 [] [])) [.c (.d w), strV name] [] = some (.tup [.agg zA, i64 (chkL l)], H) by
    obtain ⟨H, h⟩ := h
    exact vcall_of h rfl
  rw [hX.fn hF]
  simp only [i64] at h34
  have g1 : ((chkL l : Int) != 0) = true := by rw [bne_iff_ne]; omega
  refine ⟨[.cells zA 0 false], (rf_fin _ _ _ _ _ _ _ _ _ (by rfl)).trans ?_⟩
  simp only [ob?, strV, lay, splice, h34, g1, List.take, List.drop, List.map_cons, List.map_nil, List.set_cons_zero, evs, Nat.reduceAdd, Nat.reduceLeDiff, Nat.reduceSub]
abbrev R42 (w : D) (name : List Nat) (n j : Nat) : List V := [.any, strV name, .c (.ptr 0 0 0), .any, .any, .any, .any, .c (.d w), i64 (n : Int), i64 (j : Int), .any, .any]
theorem f42 (hX : XOk m X) {N : Nat} (hN : 500 ≤ N) {w : D} {l : List An} {name : List Nat} (hw : isAns w l) (hl : wfAs l) (hlen : l.length ≤ 256) (hc : chkL l = 0) :
    ((∀ j, j < l.length → ¬ (l.getD j a0).s = name) ∧ vcallN X N 42 [.c (.d w), strV name] = some (.tup [.agg zA, i64 19])) ∨
    ∃ k w', k < l.length ∧ (l.getD k a0).s = name ∧ (∀ j, j < k → ¬ (l.getD j a0).s = name) ∧ isSet w' (l.getD k a0).l ∧ vcallN X N 42 [.c (.d w), strV name] = some (.tup [.agg (acC { l.getD k a0 with w := w' }), i64 0]) := by
  obtain ⟨N, rfl⟩ : ∃ M, N = M + 1 := ⟨N - 1, by omega⟩
  have hF : fnsA 42 = some fn42' := rfl
  have h34 := hX.vc (k := 34) (F := fn34) rfl (f34 hX (N := N) (by omega) hw hl (by omega))
  have hlw := hw.len
  rw [hc] at h34
  simp only [i64] at h34
  have g1 : (((0 : Nat) : Int) != 0) = false := rfl
  have hsc := iter_find (js := some [1, 2, 7, 8, 9]) (hl := 1) (body := exec (zenv X N) N false fn42L0) (fun j => (l.getD j a0).s = name) l.length (fun i => ⟨R42 w name l.length i, [.cells zA 0 false]⟩) (b := 0) (s1 := ⟨[.any, strV name, .c (.ptr 0 0 0), .any, .any, .any, .any, .c (.d w), i64 (l.length : Int), i64 (l.length : Int), bl false, .any], [.cells zA 0 false]⟩) (Q := fun k s => ∃ w', isSet w' (l.getD k a0).l ∧ nth s.regs 2 = .c (.ptr 0 0 0) ∧ nth s.regs 3 = i64 0 ∧ s.heap = [.cells (acC { l.getD k a0 with w := w' }) 0 false, .cells (acC { l.getD k a0 with w := w' }) 0 false]) (fuel := N) (by omega)
    (by
      intro j hj hp
      obtain ⟨t, h1⟩ := hw.at hj
      have h4 : (j : Int) < (l.length : Int) := by omega
      have h5 := wrap_succ (k := j) (by omega)
      generalize l.getD j a0 = a at *
      have hq : (a.s == name) = false := by rw [beqS]; exact decide_eq_false hp
      simp only [An.ds] at h1
      refine ⟨⟨[.any, strV name, .c (.ptr 0 0 0), .any, .any, .c (.ptr 1 0 0), .any, .c (.d w), i64 (l.length : Int), i64 ((j + 1 : Nat) : Int), bl true, bl false], [.cells zA 0 false, .cells (acC a) 0 false]⟩, ?_, gc_yes rfl rfl⟩
      simp only [fn42L0, R42, acC, strV, binStr, ob?, h1, h4, h5, hq, List.take, List.drop, List.map_cons, List.map_nil, ↓sp_ixa, evs, Nat.reduceAdd])
    (by simp only [fn42L0, R42, evs])
    (by
      intro j hj hp
      have ho := hl.at hj
      obtain ⟨t, h1⟩ := hw.at hj
      have h4 : (j : Int) < (l.length : Int) := by omega
      generalize l.getD j a0 = a at *
      obtain ⟨w', h67, hw'⟩ := f67v hX (N := N) (by omega) ho.1 ho.2.1 ho.2.2.2
      have hq : (a.s == name) = true := by rw [hp]; simp
      simp only [An.ds] at h1
      refine ⟨⟨[.any, strV name, .c (.ptr 0 0 0), i64 0, .any, .c (.ptr 1 0 0), .any, .c (.d w), i64 (l.length : Int), i64 (j : Int), bl true, bl true], [.cells (acC { a with w := w' }) 0 false, .cells (acC { a with w := w' }) 0 false]⟩, ?_, w', hw', rfl, rfl, rfl⟩
      simp only [fn42L0, R42, acC, strV, binStr, ob?, splice, h1, h4, h67, hq, freeze_nil, reachV, reachC, ite_self, List.flatMap_cons, List.flatMap_nil, List.take, List.drop, List.map_cons, List.map_nil, List.set_cons_zero, List.set_cons_succ, ↓sp_ixa, evs, Nat.reduceAdd, Nat.reduceLeDiff])
  simp only [R42, strV, i64, bl, Int.natCast_zero] at hsc
  rcases hsc with ⟨hno, hit⟩ | ⟨k, s', hk, hp, hno, ⟨w', hw', hq, hq3, hqh⟩, hit⟩
  · refine .inl ⟨hno, ?_⟩
    refine vcall_of (r := .tup [.agg zA, i64 19]) (H := [.cells zA 0 false]) ?_ rfl
    rw [hX.fn hF]
    refine (rf_fin _ _ _ _ _ _ _ _ _ (by rfl)).trans ?_
    simp only [ob?, strV, lay, splice, h34, hlw, g1, hit, List.take, List.drop, List.map_cons, List.map_nil, List.set_cons_zero, ↓sp_len, evs, Nat.reduceAdd, Nat.reduceLeDiff, Nat.reduceBEq, Nat.reduceSub]
  · refine .inr ⟨k, w', hk, hp, hno, hw', ?_⟩
    obtain ⟨r, H⟩ := s'
    simp only at hq hq3 hqh
    subst hqh
    refine vcall_of (r := .tup [.agg (acC { l.getD k a0 with w := w' }), i64 0]) (H := [.cells (acC { l.getD k a0 with w := w' }) 0 false, .cells (acC { l.getD k a0 with w := w' }) 0 false]) ?_ rfl
    rw [hX.fn hF]
    refine (rf_fin _ _ _ _ _ _ _ _ _ (by rfl)).trans ?_
    generalize l.getD k a0 = a at *
    simp only [acC] at hit ⊢
    simp only [ob?, strV, h34, hlw, g1, hit, hq, hq3, List.take, List.drop, List.map_cons, List.map_nil, ↓sp_len, evs, Nat.reduceAdd, Nat.reduceBEq, Nat.reduceSub]
end Mini
end Go.Proofs.YtgjlofpfbhioaaaGreatDoor
