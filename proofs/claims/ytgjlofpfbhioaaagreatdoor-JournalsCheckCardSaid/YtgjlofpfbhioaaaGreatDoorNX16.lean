/-
  JournalsCheck: texts of the proof, part 17.
-/
import Derived.Test.YtgjlofpfbhioaaaGreatDoorNX15
import Derived.Tactics
import Derived.Tactics2
import Derived.StillTactics
import Derived.Laws.AppendOwn
import Derived.Laws.Runes
import Derived.Laws.CopyRow
import Derived.Laws.Shifts
import Derived.Laws.Rows
import Derived.Laws.BitsLemmas
import Derived.Laws.Tables
import Derived.Laws.NewBlocks
import Derived.Laws.Unary
import Derived.Laws.Strings
import Derived.Laws.NewFold
import Derived.Laws.ShiftsVarLaws
import Derived.Laws.Bits
import Derived.Laws.Alloc2
import Derived.Laws.Bits128
import Derived.Laws.Strings2
import Derived.Laws.Wrap64
import Derived.Laws.ShiftsVar
import Derived.Laws.Closers25
import Derived.Laws.RangeString
import Derived.Laws.Concat
import Derived.Laws.Cells
import Derived.Laws.NewDeep
import Derived.Laws.Pointers
import Derived.Laws.StructEq
import Derived.Laws.Closers25b
import Derived.Laws.StandIn
import Derived.Laws.Bits64b
import Derived.Laws.LoneSync
import Derived.Laws.ByValue
import Derived.Laws.MathBits
import Derived.Laws.Externs
import Derived.Laws.BitsAll
import Derived.Laws.BitsAllLaws
import Derived.Laws.Bits64
import Derived.Laws.OwnMore
import Derived.Laws.Build
import Derived.Laws.ResultCell
import Derived.Laws.Entries
import Derived.Laws.Append
import Derived.Laws.RangeAny
import Derived.Laws.World
import Derived.Laws.Strings3
import Derived.Laws.Sem
import Derived.Laws.Slices
import Derived.Laws.MakeOwn
import Derived.Laws.Small
import Derived.Laws.BytesString
import Derived.Scope
import Derived.FnLit
import Derived.LoopTactic
import Derived.Below
import Derived.Test.YtgjlofpfbhioaaaGreatDoorProg
import Derived.KernelRfl
namespace Go.Proofs.YtgjlofpfbhioaaaGreatDoor
namespace Mini
open Go Go.Shelf Go.Proofs Go.RowKit
def numS (s : List Nat) (most : Int) : Int := if s = [] ∨ most < s.length ∨ (1 < s.length ∧ s.getD 0 0 = 48) then -1 else if s.all isDig then (numN 0 s : Nat) else -1
theorem toList_nilJ (b : ByteArray) : b.toList = [] ↔ b.size = 0 := by
  rw [ByteArray.toList_eq, ← List.length_eq_zero_iff]; exact Iff.rfl
theorem bytesB_lenJ (b : ByteArray) : (bytesB b).length = b.size := (size_bytes rfl).symm
theorem bytesB_getJ (b : ByteArray) (i : Nat) (h : i < b.size) : (bytesB b)[i]? = some (b[i]'h).toNat := by
  obtain ⟨⟨l⟩⟩ := b
  have h' : i < l.length := h
  simp only [bytesB, List.getElem?_map, List.getElem?_eq_getElem h', Option.map_some]
  rfl
theorem numN_snocJ (acc : Nat) (s : List Nat) (c : Nat) : numN acc (s ++ [c]) = 10 * numN acc s + (c - 48) := by simp [numN]
theorem numN_boundJ : ∀ (s : List Nat) (acc k : Nat), s.all isDig = true → acc < 10 ^ k → numN acc s < 10 ^ (k + s.length)
  | [], acc, k, _, h => h
  | c :: s, acc, k, hd, h => by
    rw [List.all_cons, Bool.and_eq_true] at hd
    have hc := hd.1
    simp only [isDig, Bool.and_eq_true, Nat.ble_eq] at hc
    have := numN_boundJ s (10 * acc + (c - 48)) (k + 1) hd.2 (by rw [Nat.pow_succ]; omega)
    rw [List.length_cons, show k + (s.length + 1) = k + 1 + s.length by omega]
    exact this
theorem not_allJ {s : List Nat} {i c : Nat} (h : s[i]? = some c) (hc : isDig c = false) : s.all isDig = false := by
  rw [Bool.eq_false_iff]
  intro h2
  have := List.all_eq_true.1 h2 c (List.mem_of_getElem? h)
  rw [hc] at this
  cases this
theorem isDig_noJ {c : Nat} (h : c < 48 ∨ 57 < c) : isDig c = false := by
  rw [Bool.eq_false_iff]
  intro h2
  simp only [isDig, Bool.and_eq_true, Nat.ble_eq] at h2
  omega
theorem take_snocJ {s : List Nat} {i c : Nat} (h : s[i]? = some c) : s.take (i + 1) = s.take i ++ [c] := by
  rw [List.take_add_one, h]; rfl
theorem num_stepJ {s : List Nat} {i : Nat} {x : Nat} (hx : s[i]? = some x) (hi : i ≤ 10) (hd : (s.take i).all isDig = true) (h1 : 48 ≤ x) (h2 : x ≤ 57) : wrap64 (wrap64 (10 * (numN 0 (s.take i) : Int)) + ((x : Int) - 48)) = (numN 0 (s.take (i + 1)) : Nat) ∧ (s.take (i + 1)).all isDig = true := by
  have hb := numN_boundJ (s.take i) 0 0 hd (by decide)
  have hl : (s.take i).length ≤ 10 := by rw [List.length_take]; omega
  have hp : 10 ^ (0 + (s.take i).length) ≤ 10 ^ 10 := Nat.pow_le_pow_right (by decide) (by omega)
  have hp2 : (10 : Nat) ^ 10 = 10000000000 := by decide
  rw [take_snocJ hx, numN_snocJ]
  refine ⟨?_, by rw [List.all_append, hd]; simp [isDig, Nat.ble_eq]; omega⟩
  unfold wrap64
  omega
set_option maxRecDepth 1000000 in
theorem num_walk (b : ByteArray) (most : Int) (hm : most ≤ 10) (w : World) :
    Calls Tryz.prog 122 #[.string b, .int .i64 most] w fun e w' => e = .returned (.int .i64 (numS (bytesB b) most)) ∧ Below w.heap.size w w' := by
  have hlen := bytesB_lenJ b
  have hno : (b.size = 0 ∨ most < b.size ∨ (1 < b.size ∧ (bytesB b).getD 0 0 = 48)) → numS (bytesB b) most = -1 := fun h => by
    unfold numS
    rw [if_pos]
    rcases h with h | h | h
    · exact .inl (List.length_eq_zero_iff.1 (by omega))
    · exact .inr (.inl (by omega))
    · exact .inr (.inr ⟨by omega, h.2⟩)
  have hyes : ¬ (b.size = 0 ∨ most < b.size ∨ (1 < b.size ∧ (bytesB b).getD 0 0 = 48)) → numS (bytesB b) most = if (bytesB b).all isDig then ((numN 0 (bytesB b) : Nat) : Int) else (-1 : Int) := fun h => by
    unfold numS
    rw [if_neg]
    rintro (h1 | h1 | h1)
    · exact h (.inl (by rw [← hlen, h1]; rfl))
    · exact h (.inr (.inl (by omega)))
    · exact h (.inr (.inr ⟨by omega, h1.2⟩))
  go_enter Tryz.func122, Tryz.ntmps122
  go_wp2
  · rename_i h
    have hc := hno (.inl ((toList_nilJ b).1 h))
    go_ret
    rw [hc]
    exact ⟨rfl, Below.refl _ _⟩
  · rename_i h4 h3 h2 h1 h
    have hc := hno (by
      rcases h with (h | h) | h
      · exact absurd (List.isEmpty_iff.1 h) h4
      · exact .inr (.inl h)
      · refine .inr (.inr ⟨by omega, ?_⟩)
        rw [List.getD_eq_getElem?_getD, bytesB_getJ b 0 h1]
        have := eq_of_beq h
        simp only [Option.getD_some]
        omega)
    go_ret
    rw [hc]
    exact ⟨rfl, Below.refl _ _⟩
  · rename_i h4 h3 h2 h1 h _ _
    have hY : Hid (numS (bytesB b) most = if (bytesB b).all isDig then ((numN 0 (bytesB b) : Nat) : Int) else (-1 : Int)) := hyes (by
      rintro (q | q | q)
      · omega
      · omega
      · have h5 := q.2
        rw [List.getD_eq_getElem?_getD, bytesB_getJ b 0 h1] at h5
        simp only [Option.getD_some] at h5
        have h6 := h.2
        rw [h5] at h6
        cases h6)
    have h10 : Hid (b.size ≤ 10) := show b.size ≤ 10 by omega
    clear h h2 h3 h4 hno hyes
    go_loopw [5] (fun n w' => ∃ pos : Nat, w' = w.iter b pos ∧ pos ≤ b.size ∧ n = .int .i64 (numN 0 ((bytesB b).take pos) : Nat) ∧ ((bytesB b).take pos).all isDig = true) (fun _ w' => b.size - w'.iterPos w.heap.size)
    case atStart => exact ⟨0, rfl, Nat.zero_le _, rfl, rfl⟩
    case round =>
      obtain ⟨pos, rfl, hpos, rfl, hdig⟩ := hrel
      have h10' := h10.out
      clear h10
      have h10 : Hid (pos ≤ 10) := show pos ≤ 10 by omega
      clear h10'
      by_cases hp : pos < b.size
      · have hx : Hid ((bytesB b)[pos]? = some (b[pos]'hp).toNat) := bytesB_getJ b pos hp
        have hdec : Hid (((b[pos]'hp).toNat < 128 ∧ Utf8.decode b pos = ((b[pos]'hp).toNat, 1)) ∨ (128 ≤ (b[pos]'hp).toNat ∧ 128 ≤ (Utf8.decode b pos).1)) := by
          by_cases ha : (b[pos]'hp).toNat < 128
          · exact .inl ⟨ha, decode_ascii b pos hp ha⟩
          · exact .inr ⟨by omega, (decode_high b pos hp (by omega)).1⟩
        have hbad : Hid ((Utf8.decode b pos).1 < 48 ∨ 57 < (Utf8.decode b pos).1 → numS (bytesB b) most = -1) := by
          intro hc
          have hY := hY.out
          rw [hY, not_allJ hx.out (isDig_noJ (by
            rcases hdec.out with ⟨h5, h6⟩ | ⟨h5, _⟩
            · rw [h6] at hc; exact hc
            · omega)), if_neg (by simp)]
        have hnx : ∀ ty, (Instr.next (.pointer (some ⟨w.heap.size, 0, none⟩)) true ty).run Tryz.prog (w.iter b pos) = _ := fun ty => run_next_any w b pos ty hp
        go_wp2
        · rename_i hc1 hc2
          have hc := hbad.out (by omega)
          go_ret
          rw [hc]
          exact ⟨rfl, (Below.refl _ w).alloc (Nat.le_refl _) _⟩
        · rename_i hc1 hc2
          go_roundw
          case rel =>
            rcases hdec.out with ⟨h5, h6⟩ | ⟨_, h6⟩
            · rw [h6] at hc1 hc2 ⊢
              obtain ⟨k1, k2⟩ := num_stepJ hx.out h10.out hdig (by simp only at hc1; omega) (by have := hc2.2; simp only at this; omega)
              exact ⟨pos + 1, rfl, hp, by rw [k1], k2⟩
            · exfalso; omega
          case measure =>
            rcases hdec.out with ⟨h5, h6⟩ | ⟨_, h6⟩
            · rw [h6]; simp; omega
            · exfalso; omega
        · rename_i hc
          have hc := hbad.out (by omega)
          go_ret
          rw [hc]
          exact ⟨rfl, (Below.refl _ w).alloc (Nat.le_refl _) _⟩
      · have hnx : ∀ ty, (Instr.next (.pointer (some ⟨w.heap.size, 0, none⟩)) true ty).run Tryz.prog (w.iter b pos) = _ := fun ty => run_next_end w b pos ty hp
        go_wp2
        have hY := hY.out
        have ht : (bytesB b).take pos = bytesB b := List.take_of_length_le (by omega)
        rw [ht] at hdig
        rw [hdig, if_pos rfl] at hY
        go_ret
        rw [hY, ht]
        exact ⟨rfl, (Below.refl _ w).alloc (Nat.le_refl _) _⟩
  · rename_i h3 h2 h1 h
    exfalso
    rcases h1 with h1 | h1
    · exact h3 (List.isEmpty_iff.1 h1)
    · omega
  · rename_i h3 h2 h1 _ _ h
    have hY : Hid (numS (bytesB b) most = if (bytesB b).all isDig then ((numN 0 (bytesB b) : Nat) : Int) else (-1 : Int)) := hyes (by
      rintro (q | q | q)
      · exact h3 ((toList_nilJ b).2 q)
      · omega
      · omega)
    have h10 : Hid (b.size ≤ 10) := show b.size ≤ 10 by omega
    clear h h1 h2 h3 hno hyes
    go_loopw [5] (fun n w' => ∃ pos : Nat, w' = w.iter b pos ∧ pos ≤ b.size ∧ n = .int .i64 (numN 0 ((bytesB b).take pos) : Nat) ∧ ((bytesB b).take pos).all isDig = true) (fun _ w' => b.size - w'.iterPos w.heap.size)
    case atStart => exact ⟨0, rfl, Nat.zero_le _, rfl, rfl⟩
    case round =>
      obtain ⟨pos, rfl, hpos, rfl, hdig⟩ := hrel
      have h10' := h10.out
      clear h10
      have h10 : Hid (pos ≤ 10) := show pos ≤ 10 by omega
      clear h10'
      by_cases hp : pos < b.size
      · have hx : Hid ((bytesB b)[pos]? = some (b[pos]'hp).toNat) := bytesB_getJ b pos hp
        have hdec : Hid (((b[pos]'hp).toNat < 128 ∧ Utf8.decode b pos = ((b[pos]'hp).toNat, 1)) ∨ (128 ≤ (b[pos]'hp).toNat ∧ 128 ≤ (Utf8.decode b pos).1)) := by
          by_cases ha : (b[pos]'hp).toNat < 128
          · exact .inl ⟨ha, decode_ascii b pos hp ha⟩
          · exact .inr ⟨by omega, (decode_high b pos hp (by omega)).1⟩
        have hbad : Hid ((Utf8.decode b pos).1 < 48 ∨ 57 < (Utf8.decode b pos).1 → numS (bytesB b) most = -1) := by
          intro hc
          have hY := hY.out
          rw [hY, not_allJ hx.out (isDig_noJ (by
            rcases hdec.out with ⟨h5, h6⟩ | ⟨h5, _⟩
            · rw [h6] at hc; exact hc
            · omega)), if_neg (by simp)]
        have hnx : ∀ ty, (Instr.next (.pointer (some ⟨w.heap.size, 0, none⟩)) true ty).run Tryz.prog (w.iter b pos) = _ := fun ty => run_next_any w b pos ty hp
        go_wp2
        · rename_i hc1 hc2
          have hc := hbad.out (by omega)
          go_ret
          rw [hc]
          exact ⟨rfl, (Below.refl _ w).alloc (Nat.le_refl _) _⟩
        · rename_i hc1 hc2
          go_roundw
          case rel =>
            rcases hdec.out with ⟨h5, h6⟩ | ⟨_, h6⟩
            · rw [h6] at hc1 hc2 ⊢
              obtain ⟨k1, k2⟩ := num_stepJ hx.out h10.out hdig (by simp only at hc1; omega) (by have := hc2.2; simp only at this; omega)
              exact ⟨pos + 1, rfl, hp, by rw [k1], k2⟩
            · exfalso; omega
          case measure =>
            rcases hdec.out with ⟨h5, h6⟩ | ⟨_, h6⟩
            · rw [h6]; simp; omega
            · exfalso; omega
        · rename_i hc
          have hc := hbad.out (by omega)
          go_ret
          rw [hc]
          exact ⟨rfl, (Below.refl _ w).alloc (Nat.le_refl _) _⟩
      · have hnx : ∀ ty, (Instr.next (.pointer (some ⟨w.heap.size, 0, none⟩)) true ty).run Tryz.prog (w.iter b pos) = _ := fun ty => run_next_end w b pos ty hp
        go_wp2
        have hY := hY.out
        have ht : (bytesB b).take pos = bytesB b := List.take_of_length_le (by omega)
        rw [ht] at hdig
        rw [hdig, if_pos rfl] at hY
        go_ret
        rw [hY, ht]
        exact ⟨rfl, (Below.refl _ w).alloc (Nat.le_refl _) _⟩
  · rename_i h1 h
    have hc := hno (.inr (.inl h))
    go_ret
    exact ⟨rfl, Below.refl _ _⟩
def numV : List V → Option V
  | [.c (.d (.str s)), .c (.d (.int .i64 n))] => if n ≤ 10 then some (I64 (numS s n)) else none
  | _ => none
theorem numV_ok {G : Nat → Option (List D)} {vs : List V} {r : V} (h : numV vs = some r) : Enters Tryz.prog 122 ∧ ValCall Tryz.prog G 122 vs r := by
  refine ⟨⟨Tryz.f122, by kernel_rfl, by kernel_rfl, by kernel_rfl⟩, ?_⟩
  unfold numV at h
  split at h <;> try (cases h; done)
  rename_i s n
  split at h <;> try (cases h; done)
  rename_i hc
  simp only [Option.some.injEq] at h
  subst h
  intro I w us _ hI hrel hlen
  match us, hlen, hrel with
  | [u1, u2], _, hrel =>
    simp only [RelVs, and_true] at hrel
    obtain ⟨r1, r2⟩ := hrel
    obtain ⟨b, rfl, rfl⟩ := relStr r1
    obtain rfl := relInt r2
    refine (num_walk b n hc w).mono fun e w' hh => ?_
    obtain ⟨rfl, hb⟩ := hh
    exact out_below hI hb intRel
end Mini
end Go.Proofs.YtgjlofpfbhioaaaGreatDoor
namespace Go.Proofs.YtgjlofpfbhioaaaGreatDoor
namespace Mini
open Go
def fnsX (f : FuncId) : Option Fn := match fnsJ f with
  | some F => some F
  | none => fnsA f
def primJ (f : FuncId) (vs : List V) : Option V := match f with
  | 122 => numV vs
  | _ => prim0 f vs
theorem fnsX_ok (f : FuncId) (F : Fn) (h : fnsX f = some F) : Form f F := by
  unfold fnsX at h
  split at h
  · rename_i G hG
    cases h
    exact fnsJ_ok f _ hG
  · exact fnsA_ok f F h
theorem primJ_ok {m : Int} {f : FuncId} {vs : List V} {r : V} (h : primJ f vs = some r) : Enters Tryz.prog f ∧ ValCall Tryz.prog (glob0 m) f vs r := by
  unfold primJ at h
  split at h
  · exact numV_ok h
  · exact prim0_ok h
def XJ (m : Int) : Ctx := ⟨fnsX, primJ, hprim0, fun _ _ _ => none, glob0 m⟩
theorem XJ_ok (m : Int) : CtxOk Tryz.prog (XJ m) := ⟨fnsX_ok, fun _ _ _ h => primJ_ok h, fun _ _ _ _ _ h => hprim0_ok h⟩
end Mini
end Go.Proofs.YtgjlofpfbhioaaaGreatDoor
namespace Go.Proofs.YtgjlofpfbhioaaaGreatDoor
namespace Mini
open Go
def i64 (n : Int) : V := .c (.d (.int .i64 n))
def bl (b : Bool) : V := .c (.d (.bool b))
theorem an0 : asNat (.c (.d (.int .i64 0))) = some 0 := rfl
theorem an1 : asNat (.c (.d (.int .i64 1))) = some 1 := rfl
theorem an2 : asNat (.c (.d (.int .i64 2))) = some 2 := rfl
def lenc : V → Option (V × List Ob)
  | .c (.d .nils) => some (.c (.d (.int .i64 0)), [])
  | .c (.d (.sl _ n)) => some (.c (.d (.int .i64 (Int.ofNat n))), [])
  | .c (.os _ _ _ n _ _) => some (.c (.d (.int .i64 (Int.ofNat n))), [])
  | _ => none
def ixac (sz k : Nat) : V → Option (V × List Ob)
  | .c (.d (.sl cs len)) => if k < len ∧ k * sz < cs.length then some (.c (.d (.ip (cs.drop (k * sz)))), []) else none
  | .c (.os id gen off len sz' _) => if sz' = sz ∧ k < len then some (.c (.ptr id gen (off + k * sz)), []) else none
  | _ => none
theorem lenc_nil : lenc (.c (.d .nils)) = some (.c (.d (.int .i64 0)), []) := rfl
theorem lenc_sl (cs : List D) (n : Nat) : lenc (.c (.d (.sl cs n))) = some (.c (.d (.int .i64 (Int.ofNat n))), []) := rfl
theorem lenc_os (id gen off n sz : Nat) (cap : Option Nat) : lenc (.c (.os id gen off n sz cap)) = some (.c (.d (.int .i64 (Int.ofNat n))), []) := rfl
theorem ixac_sl (sz k : Nat) (cs : List D) (len : Nat) : ixac sz k (.c (.d (.sl cs len))) = if k < len ∧ k * sz < cs.length then some (.c (.d (.ip (cs.drop (k * sz)))), []) else none := rfl
theorem ixac_os (sz k id gen off len sz' : Nat) (cap : Option Nat) : ixac sz k (.c (.os id gen off len sz' cap)) = if sz' = sz ∧ k < len then some (.c (.ptr id gen (off + k * sz)), []) else none := rfl
def optC (x : Option Nat) (f : Nat → Option (V × List Ob)) : Option (V × List Ob) :=
  match x with
  | some k => f k
  | none => none
theorem optC_some (k : Nat) (f : Nat → Option (V × List Ob)) : optC (some k) f = f k := rfl
theorem sp_len (lk : A → V) (H : Heap) (a : A) : stepP lk H (.len a) = lenc (lk a) := by
  simp only [stepP]
  unfold lenc
  rfl
theorem sp_ixa (lk : A → V) (H : Heap) (sz : Nat) (a i : A) : stepP lk H (.ixa sz a i) = optC (asNat (lk i)) fun k => ixac sz k (lk a) := by
  simp only [stepP]
  unfold optC ixac
  rfl
def blkc (x : Option (Ex × St)) (id : Nat) : Option (Ex × St) :=
  match x with
  | some (.exit id', s') => if id' = id then some (.nrm, s') else some (.exit id', s')
  | r => r
theorem ex_block (E : Env) (N : Nat) (rd : Bool) (id : Nat) (b : I) (s : St) : exec E N rd (.block id b) s = blkc (exec E N rd b s) id := rfl
theorem bk_nrm (s : St) (id : Nat) : blkc (some (.nrm, s)) id = some (.nrm, s) := rfl
theorem bk_ret (s : St) (id : Nat) : blkc (some (.ret, s)) id = some (.ret, s) := rfl
theorem bk_exit (s : St) (id id' : Nat) : blkc (some (.exit id', s)) id = if id' = id then some (.nrm, s) else some (.exit id', s) := rfl
theorem ex_loop (E : Env) (N : Nat) (rd : Bool) (js : Option (List Nat)) (b : I) (s : St) : exec E N rd (.loop js b) s = iter js s.heap.length (exec E N rd b) N (tidy s.heap.length js s) := rfl
theorem ex_loopk (E : Env) (N : Nat) (rd : Bool) (js : List Nat) (b : I) (regs : List V) (H : Heap) : exec E N rd (.loop (some js) b) ⟨regs, H⟩ = iter (some js) H.length (exec E N rd b) N ⟨keepOnly js 0 regs, H⟩ := by
  rw [ex_loop]
  show iter (some js) H.length (exec E N rd b) N (gc H.length ⟨keepOnly js 0 regs, H⟩) = _
  rw [gc_le (s := ⟨keepOnly js 0 regs, H⟩) (Nat.le_refl _)]
theorem iter_to {js : Option (List Nat)} {hl : Nat} {body : St → Option (Ex × St)} (R : Nat → St) {e : Ex} {s : St} (he : e ≠ .nrm) : ∀ (k i fuel : Nat), (∀ j, i ≤ j → j < i + k → ∃ s', body (R j) = some (.nrm, s') ∧ tidy hl js s' = R (j + 1)) → body (R (i + k)) = some (e, s) → k < fuel → iter js hl body fuel (R i) = some (e, s)
  | 0, i, fuel + 1, _, h, _ => by
    simp only [Nat.add_zero] at h
    simp only [iter, h]
    cases e with
    | nrm => exact absurd rfl he
    | _ => rfl
  | k + 1, i, fuel + 1, hr, h, hk => by
    obtain ⟨s', h1, h2⟩ := hr i (Nat.le_refl _) (by omega)
    simp only [iter, h1, h2]
    exact iter_to R he k (i + 1) fuel (fun j h3 h4 => hr j (by omega) (by omega)) (by rw [show i + 1 + k = i + (k + 1) by omega]; exact h) (by omega)
theorem first_or {α : Type} (p : α → Prop) [DecidablePred p] : ∀ l : List α, (∀ x ∈ l, ¬ p x) ∨ ∃ (k : Nat) (x : α), l[k]? = some x ∧ p x ∧ ∀ (j : Nat) (y : α), j < k → l[j]? = some y → ¬ p y
  | [] => .inl (by simp)
  | x :: l => by
    by_cases h : p x
    · exact .inr ⟨0, x, rfl, h, fun j y hj => absurd hj (Nat.not_lt_zero j)⟩
    · rcases first_or p l with h2 | ⟨k, y, h1, h2, h3⟩
      · left
        intro z hz
        rcases List.mem_cons.1 hz with rfl | hz
        · exact h
        · exact h2 z hz
      · refine .inr ⟨k + 1, y, h1, h2, fun j z hj hz => ?_⟩
        cases j with
        | zero => simp only [List.getElem?_cons_zero, Option.some.injEq] at hz; rw [← hz]; exact h
        | succ j => exact h3 j z (by omega) hz
abbrev Oid := Nat × List Nat
def u32D (x : Nat) : D := .int .u32 (x : Int)
def oD (o : Oid) : List D := .int .u8 (o.1 : Int) :: o.2.map u32D
def oC (o : Oid) : List C := (oD o).map .d
def wfO (o : Oid) : Prop := o.1 < 256 ∧ o.2.length = 16 ∧ ∀ x ∈ o.2, x < 4294967296
theorem oD_len {o : Oid} (h : wfO o) : (oD o).length = 17 := by simp [oD, h.2.1]
theorem oC_len {o : Oid} (h : wfO o) : (oC o).length = 17 := by simp [oC, oD_len h]
theorem oC_arc {o : Oid} {i x : Nat} (hx : o.2[i]? = some x) : (((oC o).drop (1 + i)).take 1) = [.d (u32D x)] := by
  have h : (oC o)[1 + i]? = some (.d (u32D x)) := by
    rw [Nat.add_comm]
    simp [oC, oD, hx]
  obtain ⟨hlt, he⟩ := List.getElem?_eq_some_iff.1 h
  rw [List.drop_eq_getElem_cons hlt, he]
  rfl
def chkO (o : Oid) : Nat :=
  if o.1 < 2 ∨ 16 < o.1 ∨ 2 < o.2.getD 0 0 then 1
  else if (o.2.getD 0 0 < 2 ∧ 39 < o.2.getD 1 0) ∨ 4294967215 < o.2.getD 1 0 then 1
  else if (o.2.drop o.1).all (· == 0) then 0 else 1
theorem oC_n {o : Oid} : (((oC o).drop 0).take 1) = [.d (.int .u8 (o.1 : Int))] := rfl
theorem oC_a {o : Oid} (h : wfO o) (i : Nat) (hi : i < 16) : (((oC o).drop (1 + i)).take 1) = [.d (u32D (o.2.getD i 0))] := by
  have hlt : i < o.2.length := by rw [h.2.1]; exact hi
  refine oC_arc ?_
  rw [List.getElem?_eq_getElem hlt, List.getD_eq_getElem?_getD, List.getElem?_eq_getElem hlt]
  rfl
abbrev R53 (n i : Nat) : List V := [.any, .any, .any, .any, .any, .any, .c (.os 0 0 (1 + n) (16 - n) 1 (some (16 - n))), i64 ((16 - n : Nat) : Int), i64 i, .any, .any]
abbrev S53 (n i : Nat) (x : Nat) (b : Bool) : List V := if b then [.any, .any, .any, .c (.d (u32D x)), .any, .any, .c (.os 0 0 (1 + n) (16 - n) 1 (some (16 - n))), i64 ((16 - n : Nat) : Int), i64 ((i + 1 : Nat) : Int), bl true, bl false] else [.any, .any, i64 1, .c (.d (u32D x)), .any, .any, .c (.os 0 0 (1 + n) (16 - n) 1 (some (16 - n))), i64 ((16 - n : Nat) : Int), i64 i, bl true, bl true]
theorem r53 {E : Env} {N : Nat} {o : Oid} {n j x : Nat} (hn : n ≤ 16) (hl : o.2.length = 16) (hx : (o.2.drop n)[j]? = some x) : exec E N false fn53L0 ⟨R53 n j, [.cells (oC o) 0 false]⟩ = some (if x = 0 then .nrm else .ret, ⟨S53 n j x (decide (x = 0)), [.cells (oC o) 0 false]⟩) := by
  have hj : j < 16 - n := by
    obtain ⟨h, _⟩ := List.getElem?_eq_some_iff.1 hx
    rw [List.length_drop, hl] at h; exact h
  have h1 : ((oC o).drop (1 + n + j)).take 1 = [.d (.int .u32 (x : Int))] := by
    rw [Nat.add_assoc]
    exact oC_arc (by rw [← hx, List.getElem?_drop])
  have h2 : ((j : Nat) : Int) < ((16 - n : Nat) : Int) := by omega
  have h3 := wrap_succ (k := j) (by omega)
  by_cases hz : x = 0
  · subst hz
    simp only [fn53L0, R53, S53, u32D, ob?, h1, h2, h3, hj, bne_self_eq_false, Int.ofNat_zero, cont_some, ro_nil, ro_none, ex_seq, sq_nrm, ex_reg, rg_some, ex_cond, cd_t, cd_f, ex_skip, Mini.step, stepP, stepE, O.eff, Mini.look, nth, put, exports, bin, binInt, i64, bl, asNat_nat, ofCells, List.length_cons, List.length_nil, Option.map_some, if_true, if_false, decide_true, Nat.zero_add, Nat.mul_one, and_self, Bool.false_eq_true, ex_block, bk_nrm, List.cons_append, List.nil_append]
  · have h5 : ((x : Int) != 0) = true := by simpa using hz
    simp only [fn53L0, R53, S53, u32D, ob?, h1, h2, h5, hz, hj, cont_some, ro_nil, ro_none, ex_seq, sq_nrm, sq_ret, ex_reg, rg_some, ex_cond, cd_t, ex_skip, ex_ret, Mini.step, stepP, stepE, O.eff, Mini.look, nth, put, exports, bin, binInt, i64, bl, asNat_nat, ofCells, List.length_cons, List.length_nil, Option.map_some, if_true, if_false, decide_true, decide_false, Nat.zero_add, Nat.mul_one, and_self, Bool.false_eq_true, ex_block, bk_ret, List.cons_append, List.nil_append]
theorem chkO_ok {X : Ctx} (hX : X.fns 53 = some fn53) {o : Oid} (h : wfO o) {N : Nat} (hN : 20 ≤ N) : vcallN X N 53 [.agg (oC o)] = some (i64 (chkO o)) := by
  obtain ⟨N, rfl⟩ : ∃ M, N = M + 1 := ⟨N - 1, by omega⟩
  rw [fn53_is] at hX
  have h0 := oC_n (o := o)
  have h1 : (((oC o).drop 1).take 1) = [.d (u32D (o.2.getD 0 0))] := oC_a h 0 (by decide)
  have h2 : (((oC o).drop 2).take 1) = [.d (u32D (o.2.getD 1 0))] := oC_a h 1 (by decide)
  have hl := oC_len h
  simp only [u32D] at h1 h2
  generalize hn : o.1 = n at *
  generalize ha : o.2.getD 0 0 = a at *
  generalize hb : o.2.getD 1 0 = b at *
  by_cases c1 : (n : Int) < 2
  · refine vcall_of (r := i64 1) (H := [.cells (oC o) 0 false]) ?_ ?_
    · rw [callN_fn hX]
      refine (rf_fin _ _ _ _ _ _ _ _ _ (by rfl)).trans ?_
      simp only [ob?, h0, c1, cont_some, ro_nil, ro_none, ro_some, gc_tf, ex_seq, sq_nrm, sq_ret, ex_reg, rg_some, ex_cond, cd_t, ex_ret, fin_ret, Mini.step, stepP, stepE, O.eff, Mini.look, nth, put, exports, bin, binInt, i64, ofCells, V.cells, List.length_cons, List.length_nil, Option.map_some, if_true, if_false, decide_true, Nat.zero_add, Nat.add_zero, Bool.false_eq_true, pad, List.replicate, Nat.reduceSub, List.cons_append, List.nil_append, results, result, mapO]
    · have : chkO o = 1 := by
        unfold chkO; rw [if_pos (by omega)]
      rw [this]; rfl
  by_cases c2 : (n : Int) > 16
  · refine vcall_of (r := i64 1) (H := [.cells (oC o) 0 false]) ?_ ?_
    · rw [callN_fn hX]
      refine (rf_fin _ _ _ _ _ _ _ _ _ (by rfl)).trans ?_
      simp only [ob?, h0, c1, c2, cont_some, ro_nil, ro_none, ro_some, gc_ff, gc_tf, ex_seq, sq_nrm, sq_ret, ex_reg, rg_some, ex_cond, cd_t, ex_ret, fin_ret, Mini.step, stepP, stepE, O.eff, Mini.look, nth, put, exports, bin, binInt, i64, ofCells, V.cells, List.length_cons, List.length_nil, Option.map_some, if_true, if_false, decide_true, decide_false, Nat.zero_add, Nat.add_zero, Bool.false_eq_true, pad, List.replicate, Nat.reduceSub, List.cons_append, List.nil_append, results, result, mapO]
    · have : chkO o = 1 := by
        unfold chkO; rw [if_pos (by omega)]
      rw [this]; rfl
  by_cases c3 : (a : Int) > 2
  · refine vcall_of (r := i64 1) (H := [.cells (oC o) 0 false]) ?_ ?_
    · rw [callN_fn hX]
      refine (rf_fin _ _ _ _ _ _ _ _ _ (by rfl)).trans ?_
      simp only [ob?, h0, h1, c1, c2, c3, cont_some, ro_nil, ro_none, ro_some, gc_ff, ex_seq, sq_nrm, sq_ret, ex_reg, rg_some, ex_cond, cd_t, ex_ret, fin_ret, Mini.step, stepP, stepE, O.eff, Mini.look, nth, put, exports, bin, binInt, i64, ofCells, V.cells, List.length_cons, List.length_nil, Option.map_some, if_true, if_false, decide_true, decide_false, Nat.zero_add, Nat.add_zero, Nat.mul_one, Bool.false_eq_true, Nat.reduceLT, an0, pad, List.replicate, Nat.reduceSub, List.cons_append, List.nil_append, results, result, mapO]
    · have : chkO o = 1 := by
        unfold chkO; rw [if_pos (by omega)]
      rw [this]; rfl
  by_cases c6 : (b : Int) > 4294967215
  · refine vcall_of (r := i64 1) (H := [.cells (oC o) 0 false]) ?_ ?_
    · rw [callN_fn hX]
      refine (rf_fin _ _ _ _ _ _ _ _ _ (by rfl)).trans ?_
      by_cases c4 : (a : Int) < 2
      · have c5 : (b : Int) > 39 := by omega
        simp only [ob?, h0, h1, h2, c1, c2, c3, c4, c5, cont_some, ro_nil, ro_none, ro_some, gc_tt, gc_ff, gc_tf, ex_seq, sq_nrm, sq_ret, ex_reg, rg_some, ex_cond, cd_t, cd_f, ex_skip, ex_ret, fin_ret, Mini.step, stepP, stepE, O.eff, Mini.look, nth, put, exports, bin, binInt, i64, ofCells, V.cells, List.length_cons, List.length_nil, Option.map_some, if_true, if_false, decide_true, decide_false, Nat.zero_add, Nat.add_zero, Nat.mul_one, Bool.false_eq_true, Nat.reduceAdd, Nat.reduceLT, an0, an1, pad, List.replicate, Nat.reduceSub, List.cons_append, List.nil_append, results, result, mapO]
      · simp only [ob?, h0, h1, h2, c1, c2, c3, c4, c6, cont_some, ro_nil, ro_none, ro_some, gc_ff, gc_ft, ex_seq, sq_nrm, sq_ret, ex_reg, rg_some, ex_cond, cd_t, cd_f, ex_skip, ex_ret, fin_ret, Mini.step, stepP, stepE, O.eff, Mini.look, nth, put, exports, bin, binInt, i64, ofCells, V.cells, List.length_cons, List.length_nil, Option.map_some, if_true, if_false, decide_true, decide_false, Nat.zero_add, Nat.add_zero, Nat.mul_one, Bool.false_eq_true, Nat.reduceAdd, Nat.reduceLT, an0, an1, pad, List.replicate, Nat.reduceSub, List.cons_append, List.nil_append, results, result, mapO]
    · have : chkO o = 1 := by
        unfold chkO; rw [if_neg (by omega), if_pos (by omega)]
      rw [this]; rfl
  by_cases c5 : (a : Int) < 2 ∧ (b : Int) > 39
  · refine vcall_of (r := i64 1) (H := [.cells (oC o) 0 false]) ?_ ?_
    · rw [callN_fn hX]
      refine (rf_fin _ _ _ _ _ _ _ _ _ (by rfl)).trans ?_
      simp only [ob?, h0, h1, h2, c1, c2, c3, c5.1, c5.2, cont_some, ro_nil, ro_none, ro_some, gc_tt, gc_ff, gc_tf, ex_seq, sq_nrm, sq_ret, ex_reg, rg_some, ex_cond, cd_t, cd_f, ex_skip, ex_ret, fin_ret, Mini.step, stepP, stepE, O.eff, Mini.look, nth, put, exports, bin, binInt, i64, ofCells, V.cells, List.length_cons, List.length_nil, Option.map_some, if_true, if_false, decide_true, decide_false, Nat.zero_add, Nat.add_zero, Nat.mul_one, Bool.false_eq_true, Nat.reduceAdd, Nat.reduceLT, an0, an1, pad, List.replicate, Nat.reduceSub, List.cons_append, List.nil_append, results, result, mapO]
    · have : chkO o = 1 := by
        unfold chkO; rw [if_neg (by omega), if_pos (by omega)]
      rw [this]; rfl
  have hn2 : 2 ≤ n := by omega
  have hn16 : n ≤ 16 := by omega
  have hs : (o.2.drop n).length = 16 - n := by rw [List.length_drop, h.2.1]
  have hlp : ∃ r, iter (some [6, 7, 8]) 1 (exec (zenv X N) N false fn53L0) N ⟨R53 n 0, [.cells (oC o) 0 false]⟩ = some (if (o.2.drop n).all (· == 0) then .exit 0 else .ret, ⟨r, [.cells (oC o) 0 false]⟩) ∧ r.length = 11 ∧ ((o.2.drop n).all (· == 0) = false → nth r 2 = i64 1) := by
    have hround : ∀ j x, (o.2.drop n)[j]? = some x → ¬ x ≠ 0 → ∃ s', exec (zenv X N) N false fn53L0 ⟨R53 n j, [.cells (oC o) 0 false]⟩ = some (.nrm, s') ∧ tidy 1 (some [6, 7, 8]) s' = ⟨R53 n (j + 1), [.cells (oC o) 0 false]⟩ := by
      intro j x hj hx
      have hx0 : x = 0 := Decidable.not_not.1 hx
      subst hx0
      exact ⟨_, r53 hn16 h.2.1 hj, gc_le (Nat.le_refl 1)⟩
    rcases first_or (fun x => x ≠ 0) (o.2.drop n) with hall | ⟨k, x, hk, hx, hlt⟩
    · refine ⟨[.any, .any, .any, .any, .any, .any, .c (.os 0 0 (1 + n) (16 - n) 1 (some (16 - n))), i64 ((16 - n : Nat) : Int), i64 ((16 - n : Nat) : Int), bl false, .any], ?_, rfl, ?_⟩
      · have ha2 : (o.2.drop n).all (· == 0) = true := by
          rw [List.all_eq_true]
          intro x hx
          have := hall x hx
          simpa using this
        rw [if_pos ha2]
        have hexit : exec (zenv X N) N false fn53L0 ⟨R53 n (0 + (16 - n)), [.cells (oC o) 0 false]⟩ = some (.exit 0, ⟨[.any, .any, .any, .any, .any, .any, .c (.os 0 0 (1 + n) (16 - n) 1 (some (16 - n))), i64 ((16 - n : Nat) : Int), i64 ((16 - n : Nat) : Int), bl false, .any], [.cells (oC o) 0 false]⟩) := by
          simp only [fn53L0, R53, Int.lt_irrefl, cont_some, ro_nil, ro_none, ex_seq, sq_nrm, sq_exit, ex_reg, rg_some, ex_cond, cd_f, ex_exit, Mini.step, stepP, stepE, O.eff, Mini.look, nth, put, exports, bin, binInt, i64, bl, Option.map_some, if_true, if_false, decide_false, Nat.zero_add, Bool.false_eq_true, List.cons_append, List.nil_append]
        refine iter_to (fun i => ⟨R53 n i, [.cells (oC o) 0 false]⟩) (by simp) (16 - n) 0 N (fun j _ hj => ?_) hexit (by omega)
        have hjl : j < (o.2.drop n).length := by rw [hs]; omega
        exact hround j _ (List.getElem?_eq_getElem hjl) (hall _ (List.getElem_mem hjl))
      · intro h9
        have : (o.2.drop n).all (· == 0) = true := by
          rw [List.all_eq_true]
          intro x hx
          have := hall x hx
          simpa using this
        rw [this] at h9; cases h9
    · refine ⟨S53 n k x false, ?_, rfl, fun _ => rfl⟩
      have ha2 : (o.2.drop n).all (· == 0) = false := by
        rw [List.all_eq_false]
        exact ⟨x, List.mem_of_getElem? hk, by simpa using hx⟩
      rw [if_neg (by rw [ha2]; simp)]
      have hkl : k < 16 - n := by rw [← hs]; exact (List.getElem?_eq_some_iff.1 hk).1
      refine iter_to (fun i => ⟨R53 n i, [.cells (oC o) 0 false]⟩) (by simp) k 0 N (fun j _ hj => ?_) ?_ (by omega)
      · have hjl : j < (o.2.drop n).length := by rw [hs]; omega
        exact hround j _ (List.getElem?_eq_getElem hjl) (hlt j _ (by omega) (List.getElem?_eq_getElem hjl))
      · have := r53 (E := zenv X N) (N := N) hn16 h.2.1 hk
        rw [if_neg hx, decide_eq_false hx] at this
        rw [Nat.zero_add]; exact this
  obtain ⟨r, hlp, hr1, hr2⟩ := hlp
  refine vcall_of (r := i64 (chkO o)) (H := [.cells (oC o) 0 false]) ?_ rfl
  rw [callN_fn hX]
  have hck : chkO o = if (o.2.drop n).all (· == 0) then 0 else 1 := by
    unfold chkO
    rw [if_neg (by omega), if_neg (by omega), hn]
  rw [hck]
  refine (rf_fin _ _ _ _ _ _ _ _ _ (by rfl)).trans ?_
  match r, hr1 with
  | [r0, r1, r2, r3, r4, r5, r6, r7, r8, r9, r10], _ =>
  have hr3 := hr2
  simp only [nth] at hr3
  simp only [R53, i64, Int.natCast_zero] at hlp
  have hfin : ∀ (c : Bool) , (o.2.drop n).all (· == 0) = c → iter (some [6, 7, 8]) 1 (exec (zenv X N) N false fn53L0) N ⟨[.any, .any, .any, .any, .any, .any, .c (.os 0 0 (1 + n) (16 - n) 1 (some (16 - n))), .c (.d (.int .i64 ((16 - n : Nat) : Int))), .c (.d (.int .i64 0)), .any, .any], [.cells (oC o) 0 false]⟩ = some (if c = true then .exit 0 else .ret, ⟨[r0, r1, r2, r3, r4, r5, r6, r7, r8, r9, r10], [.cells (oC o) 0 false]⟩) := by
    intro c hc
    rw [← hc]; exact hlp
  by_cases c4 : (a : Int) < 2
  · have c8 : ¬ (b : Int) > 39 := fun h9 => c5 ⟨c4, h9⟩
    cases hall : (o.2.drop n).all (· == 0)
    · have hq := hfin _ hall
      have hw := hr3 hall
      subst hw
      simp only [ob?, h0, h1, h2, c1, c2, c3, c4, c6, c8, hl, optNat, hn16, Option.map_none, hq, Int.natCast_one, cont_some, ro_nil, ro_none, ro_some, gc_tt, gc_ff, ex_seq, sq_nrm, sq_ret, ex_reg, rg_some, ex_cond, cd_f, ex_skip, fin_ret, Mini.step, stepP, stepE, O.eff, Mini.look, nth, put, exports, bin, binInt, i64, asNat_nat, ofCells, V.cells, List.length_cons, List.length_nil, Option.map_some, if_true, if_false, decide_true, decide_false, Nat.zero_add, Nat.add_zero, Nat.mul_one, and_self, Int.ofNat_eq_natCast, Bool.false_eq_true, Nat.reduceAdd, Nat.reduceLeDiff, Nat.reduceLT, an0, an1, ex_block, ex_loopk, keepOnly, List.contains_cons, List.contains_nil, Nat.reduceBEq, Bool.or_false, Bool.or_true, bk_ret, pad, List.replicate, Nat.reduceSub, List.cons_append, List.nil_append, results, result, mapO]
    · have hq := hfin _ hall
      simp only [ob?, h0, h1, h2, c1, c2, c3, c4, c6, c8, hl, optNat, hn16, Option.map_none, hq, Int.natCast_zero, cont_some, ro_nil, ro_none, ro_some, gc_tt, gc_ff, ex_seq, sq_nrm, ex_reg, rg_some, ex_cond, cd_f, ex_skip, ex_ret, fin_ret, Mini.step, stepP, stepE, O.eff, Mini.look, nth, put, exports, bin, binInt, i64, asNat_nat, ofCells, V.cells, List.length_cons, List.length_nil, Option.map_some, if_true, if_false, decide_true, decide_false, Nat.zero_add, Nat.add_zero, Nat.mul_one, and_self, Int.ofNat_eq_natCast, Bool.false_eq_true, Nat.reduceAdd, Nat.reduceLeDiff, Nat.reduceLT, an0, an1, ex_block, ex_loopk, keepOnly, List.contains_cons, List.contains_nil, Nat.reduceBEq, Bool.or_false, Bool.or_true, bk_exit, pad, List.replicate, Nat.reduceSub, List.cons_append, List.nil_append, results, result, mapO]
  · cases hall : (o.2.drop n).all (· == 0)
    · have hq := hfin _ hall
      have hw := hr3 hall
      subst hw
      simp only [ob?, h0, h1, h2, c1, c2, c3, c4, c6, hl, optNat, hn16, Option.map_none, hq, Int.natCast_one, cont_some, ro_nil, ro_none, ro_some, gc_ff, gc_ft, ex_seq, sq_nrm, sq_ret, ex_reg, rg_some, ex_cond, cd_f, ex_skip, fin_ret, Mini.step, stepP, stepE, O.eff, Mini.look, nth, put, exports, bin, binInt, i64, asNat_nat, ofCells, V.cells, List.length_cons, List.length_nil, Option.map_some, if_true, if_false, decide_false, Nat.zero_add, Nat.add_zero, Nat.mul_one, and_self, Int.ofNat_eq_natCast, Bool.false_eq_true, Nat.reduceAdd, Nat.reduceLeDiff, Nat.reduceLT, an0, an1, ex_block, ex_loopk, keepOnly, List.contains_cons, List.contains_nil, Nat.reduceBEq, Bool.or_false, Bool.or_true, bk_ret, pad, List.replicate, Nat.reduceSub, List.cons_append, List.nil_append, results, result, mapO]
    · have hq := hfin _ hall
      simp only [ob?, h0, h1, h2, c1, c2, c3, c4, c6, hl, optNat, hn16, Option.map_none, hq, Int.natCast_zero, cont_some, ro_nil, ro_none, ro_some, gc_ff, gc_ft, ex_seq, sq_nrm, ex_reg, rg_some, ex_cond, cd_f, ex_skip, ex_ret, fin_ret, Mini.step, stepP, stepE, O.eff, Mini.look, nth, put, exports, bin, binInt, i64, asNat_nat, ofCells, V.cells, List.length_cons, List.length_nil, Option.map_some, if_true, if_false, decide_false, Nat.zero_add, Nat.add_zero, Nat.mul_one, and_self, Int.ofNat_eq_natCast, Bool.false_eq_true, Nat.reduceAdd, Nat.reduceLeDiff, Nat.reduceLT, an0, an1, ex_block, ex_loopk, keepOnly, List.contains_cons, List.contains_nil, Nat.reduceBEq, Bool.or_false, Bool.or_true, bk_exit, pad, List.replicate, Nat.reduceSub, List.cons_append, List.nil_append, results, result, mapO]
end Mini
end Go.Proofs.YtgjlofpfbhioaaaGreatDoor
namespace Go.Proofs.YtgjlofpfbhioaaaGreatDoor
namespace Mini
open Go
theorem evs : type_of% (And.intro (And.intro (And.intro (And.intro (And.intro (And.intro (And.intro (@lenc_nil) (And.intro (@lenc_sl) (@lenc_os))) (And.intro (@ixac_sl) (And.intro (@ixac_os) (@optC_some)))) (And.intro (And.intro (@cont_some) (And.intro (@ro_nil) (@ro_none))) (And.intro (And.intro (@ro_some) (@gc_tt)) (And.intro (@gc_ff) (@gc_tf))))) (And.intro (And.intro (And.intro (@gc_ft) (And.intro (@gc_t) (@ex_seq))) (And.intro (@sq_nrm) (And.intro (@sq_ret) (@sq_exit)))) (And.intro (And.intro (@ex_reg) (And.intro (@rg_some) (@ex_cond))) (And.intro (And.intro (@cd_t) (@cd_f)) (And.intro (@ex_skip) (@ex_ret)))))) (And.intro (And.intro (And.intro (And.intro (@ex_exit) (And.intro (@fin_ret) (@fin_nrm))) (And.intro (@Mini.step.eq_1) (And.intro (@Mini.step.eq_2) (@Mini.step.eq_3)))) (And.intro (And.intro (@Mini.stepP.eq_1) (And.intro (@Mini.stepP.eq_2) (@Mini.stepP.eq_3))) (And.intro (And.intro (@Mini.stepP.eq_4) (@Mini.stepP.eq_5)) (And.intro (@Mini.stepP.eq_6) (@Mini.stepP.eq_7))))) (And.intro (And.intro (And.intro (@Mini.stepP.eq_8) (And.intro (@Mini.stepP.eq_9) (@Mini.stepP.eq_10))) (And.intro (And.intro (@Mini.stepP.eq_11) (@Mini.stepP.eq_12)) (And.intro (@Mini.stepP.eq_13) (@Mini.stepP.eq_14)))) (And.intro (And.intro (@Mini.stepP.eq_15) (And.intro (@Mini.stepP.eq_16) (@Mini.stepP.eq_17))) (And.intro (And.intro (@Mini.stepP.eq_18) (@Mini.stepP.eq_19)) (And.intro (@Mini.stepP.eq_20) (@Mini.stepP.eq_21))))))) (And.intro (And.intro (And.intro (And.intro (And.intro (@Mini.stepP.eq_22) (And.intro (@Mini.stepP.eq_23) (@Mini.stepP.eq_24))) (And.intro (@Mini.stepP.eq_25) (And.intro (@Mini.stepP.eq_26) (@Mini.stepP.eq_27)))) (And.intro (And.intro (@Mini.stepP.eq_28) (And.intro (@Mini.stepP.eq_29) (@Mini.stepP.eq_30))) (And.intro (And.intro (@Mini.stepP.eq_31) (@Mini.stepP.eq_32)) (And.intro (@Mini.stepP.eq_33) (@Mini.stepP.eq_34))))) (And.intro (And.intro (And.intro (@Mini.stepP.eq_35) (And.intro (@Mini.stepP.eq_36) (@Mini.stepP.eq_37))) (And.intro (And.intro (@Mini.stepP.eq_38) (@Mini.stepP.eq_39)) (And.intro (@Mini.stepE.eq_1) (@Mini.stepE.eq_2)))) (And.intro (And.intro (@Mini.stepE.eq_3) (And.intro (@Mini.stepE.eq_4) (@Mini.stepE.eq_5))) (And.intro (And.intro (@Mini.stepE.eq_6) (@Mini.stepE.eq_7)) (And.intro (@Mini.stepE.eq_8) (@Mini.stepE.eq_9)))))) (And.intro (And.intro (And.intro (And.intro (@Mini.stepE.eq_10) (And.intro (@Mini.stepE.eq_11) (@Mini.O.eff.eq_1))) (And.intro (@Mini.O.eff.eq_2) (And.intro (@Mini.O.eff.eq_3) (@Mini.O.eff.eq_4)))) (And.intro (And.intro (@Mini.O.eff.eq_5) (And.intro (@Mini.O.eff.eq_6) (@Mini.O.eff.eq_7))) (And.intro (And.intro (@Mini.O.eff.eq_8) (@Mini.O.eff.eq_9)) (And.intro (@Mini.O.eff.eq_10) (@Mini.O.eff.eq_11))))) (And.intro (And.intro (And.intro (@Mini.O.eff.eq_12) (And.intro (@Mini.look.eq_1) (@Mini.look.eq_2))) (And.intro (And.intro (@Mini.look.eq_3) (@Mini.look.eq_4)) (And.intro (@Mini.nth.eq_1) (@Mini.nth.eq_2)))) (And.intro (And.intro (@Mini.nth.eq_3) (And.intro (@Mini.put.eq_1) (@Mini.put.eq_2))) (And.intro (And.intro (@Mini.put.eq_3) (@Mini.exports.eq_1)) (And.intro (@Mini.exports.eq_2) (@Mini.bin.eq_1)))))))) (And.intro (And.intro (And.intro (And.intro (And.intro (And.intro (@Mini.bin.eq_2) (And.intro (@Mini.bin.eq_3) (@Mini.bin.eq_4))) (And.intro (@Mini.bin.eq_5) (And.intro (@Mini.binInt.eq_1) (@Mini.binInt.eq_2)))) (And.intro (And.intro (@Mini.binInt.eq_3) (And.intro (@Mini.binInt.eq_4) (@Mini.binInt.eq_5))) (And.intro (And.intro (@Mini.binInt.eq_6) (@Mini.binInt.eq_7)) (And.intro (@Mini.binInt.eq_8) (@Mini.binInt.eq_9))))) (And.intro (And.intro (And.intro (@Mini.binInt.eq_10) (And.intro (@Mini.binInt.eq_11) (@Mini.binInt.eq_12))) (And.intro (And.intro (@Mini.binInt.eq_13) (@Mini.binInt.eq_14)) (And.intro (@Mini.binInt.eq_15) (@Mini.binInt.eq_16)))) (And.intro (And.intro (@Mini.un.eq_1) (And.intro (@Mini.un.eq_2) (@Mini.un.eq_3))) (And.intro (And.intro (@Mini.un.eq_4) (@Mini.i64.eq_1)) (And.intro (@Mini.bl.eq_1) (@asNat_nat)))))) (And.intro (And.intro (And.intro (And.intro (@ob_eq) (And.intro (@setOb_eq) (@Mini.ofCells.eq_def))) (And.intro (@Mini.V.cells.eq_1) (And.intro (@Mini.V.cells.eq_2) (@Mini.V.cells.eq_3)))) (And.intro (And.intro (@List.length_cons.{0}) (And.intro (@List.length_nil.{0}) (@Option.map_some.{0, 0}))) (And.intro (And.intro (@if_true.{1}) (@if_false.{1})) (And.intro (@decide_true) (@decide_false))))) (And.intro (And.intro (And.intro (@List.append_nil.{0}) (And.intro (@List.all_nil.{0}) (@cond_true.{1}))) (And.intro (And.intro (@cond_false.{1}) (@Nat.zero_add)) (And.intro (@Nat.add_zero) (@Nat.mul_one)))) (And.intro (And.intro (@Nat.one_mul) (And.intro (@and_self) (@Int.ofNat_eq_natCast))) (And.intro (And.intro (@Bool.false_eq_true) (@decide_eq_true_eq)) (And.intro (@true_and) (@and_true))))))) (And.intro (And.intro (And.intro (And.intro (And.intro (@false_and) (And.intro (@and_false) (@an0))) (And.intro (@an1) (And.intro (@an2) (@ex_block)))) (And.intro (And.intro (@ex_loopk) (And.intro (@Mini.keepOnly.eq_1) (@Mini.keepOnly.eq_2))) (And.intro (And.intro (@List.contains_cons.{0}) (@List.contains_nil.{0})) (And.intro (@Bool.or_false) (@Bool.or_true))))) (And.intro (And.intro (And.intro (@Bool.false_or) (And.intro (@Bool.true_or) (@bk_nrm))) (And.intro (And.intro (@bk_ret) (@bk_exit)) (And.intro (@Mini.pad.eq_1) (@List.replicate.eq_1.{0})))) (And.intro (And.intro (@List.replicate.eq_2.{0}) (And.intro (@List.cons_append.{0}) (@List.nil_append.{0}))) (And.intro (And.intro (@Mini.results.eq_1) (@Mini.result.eq_1)) (And.intro (@Mini.result.eq_2) (@Mini.mapO.eq_1)))))) (And.intro (And.intro (And.intro (And.intro (@Mini.mapO.eq_2) (And.intro (@Mini.byValue.eq_1) (@Mini.deepV1.eq_1))) (And.intro (@Mini.deepV1.eq_2) (And.intro (@Mini.deepV1.eq_3) (@Mini.deepC.eq_1)))) (And.intro (And.intro (@Mini.deepC.eq_2) (And.intro (@Mini.deepC.eq_3) (@Mini.deepC.eq_4))) (And.intro (And.intro (@Mini.deepC.eq_5) (@Mini.V.flat.eq_1)) (And.intro (@Mini.V.flat.eq_2) (@Mini.V.flat1.eq_1))))) (And.intro (And.intro (And.intro (@Mini.V.flat1.eq_2) (And.intro (@Mini.V.flat1.eq_3) (@Mini.C.flat.eq_1))) (And.intro (And.intro (@Mini.C.flat.eq_2) (@Mini.D.flat.eq_1)) (And.intro (@Mini.D.flat.eq_2) (@Mini.D.flat.eq_3)))) (And.intro (And.intro (@Mini.D.flat.eq_4) (And.intro (@bne_self_eq_false.{0}) (@Int.lt_irrefl))) (And.intro (And.intro (@zenv_call) (@beq_self_eq_true.{0})) (And.intro (@List.getElem?_cons_zero.{0}) (@List.getElem?_cons_succ.{0}))))))))) :=
  And.intro (And.intro (And.intro (And.intro (And.intro (And.intro (And.intro (@lenc_nil) (And.intro (@lenc_sl) (@lenc_os))) (And.intro (@ixac_sl) (And.intro (@ixac_os) (@optC_some)))) (And.intro (And.intro (@cont_some) (And.intro (@ro_nil) (@ro_none))) (And.intro (And.intro (@ro_some) (@gc_tt)) (And.intro (@gc_ff) (@gc_tf))))) (And.intro (And.intro (And.intro (@gc_ft) (And.intro (@gc_t) (@ex_seq))) (And.intro (@sq_nrm) (And.intro (@sq_ret) (@sq_exit)))) (And.intro (And.intro (@ex_reg) (And.intro (@rg_some) (@ex_cond))) (And.intro (And.intro (@cd_t) (@cd_f)) (And.intro (@ex_skip) (@ex_ret)))))) (And.intro (And.intro (And.intro (And.intro (@ex_exit) (And.intro (@fin_ret) (@fin_nrm))) (And.intro (@Mini.step.eq_1) (And.intro (@Mini.step.eq_2) (@Mini.step.eq_3)))) (And.intro (And.intro (@Mini.stepP.eq_1) (And.intro (@Mini.stepP.eq_2) (@Mini.stepP.eq_3))) (And.intro (And.intro (@Mini.stepP.eq_4) (@Mini.stepP.eq_5)) (And.intro (@Mini.stepP.eq_6) (@Mini.stepP.eq_7))))) (And.intro (And.intro (And.intro (@Mini.stepP.eq_8) (And.intro (@Mini.stepP.eq_9) (@Mini.stepP.eq_10))) (And.intro (And.intro (@Mini.stepP.eq_11) (@Mini.stepP.eq_12)) (And.intro (@Mini.stepP.eq_13) (@Mini.stepP.eq_14)))) (And.intro (And.intro (@Mini.stepP.eq_15) (And.intro (@Mini.stepP.eq_16) (@Mini.stepP.eq_17))) (And.intro (And.intro (@Mini.stepP.eq_18) (@Mini.stepP.eq_19)) (And.intro (@Mini.stepP.eq_20) (@Mini.stepP.eq_21))))))) (And.intro (And.intro (And.intro (And.intro (And.intro (@Mini.stepP.eq_22) (And.intro (@Mini.stepP.eq_23) (@Mini.stepP.eq_24))) (And.intro (@Mini.stepP.eq_25) (And.intro (@Mini.stepP.eq_26) (@Mini.stepP.eq_27)))) (And.intro (And.intro (@Mini.stepP.eq_28) (And.intro (@Mini.stepP.eq_29) (@Mini.stepP.eq_30))) (And.intro (And.intro (@Mini.stepP.eq_31) (@Mini.stepP.eq_32)) (And.intro (@Mini.stepP.eq_33) (@Mini.stepP.eq_34))))) (And.intro (And.intro (And.intro (@Mini.stepP.eq_35) (And.intro (@Mini.stepP.eq_36) (@Mini.stepP.eq_37))) (And.intro (And.intro (@Mini.stepP.eq_38) (@Mini.stepP.eq_39)) (And.intro (@Mini.stepE.eq_1) (@Mini.stepE.eq_2)))) (And.intro (And.intro (@Mini.stepE.eq_3) (And.intro (@Mini.stepE.eq_4) (@Mini.stepE.eq_5))) (And.intro (And.intro (@Mini.stepE.eq_6) (@Mini.stepE.eq_7)) (And.intro (@Mini.stepE.eq_8) (@Mini.stepE.eq_9)))))) (And.intro (And.intro (And.intro (And.intro (@Mini.stepE.eq_10) (And.intro (@Mini.stepE.eq_11) (@Mini.O.eff.eq_1))) (And.intro (@Mini.O.eff.eq_2) (And.intro (@Mini.O.eff.eq_3) (@Mini.O.eff.eq_4)))) (And.intro (And.intro (@Mini.O.eff.eq_5) (And.intro (@Mini.O.eff.eq_6) (@Mini.O.eff.eq_7))) (And.intro (And.intro (@Mini.O.eff.eq_8) (@Mini.O.eff.eq_9)) (And.intro (@Mini.O.eff.eq_10) (@Mini.O.eff.eq_11))))) (And.intro (And.intro (And.intro (@Mini.O.eff.eq_12) (And.intro (@Mini.look.eq_1) (@Mini.look.eq_2))) (And.intro (And.intro (@Mini.look.eq_3) (@Mini.look.eq_4)) (And.intro (@Mini.nth.eq_1) (@Mini.nth.eq_2)))) (And.intro (And.intro (@Mini.nth.eq_3) (And.intro (@Mini.put.eq_1) (@Mini.put.eq_2))) (And.intro (And.intro (@Mini.put.eq_3) (@Mini.exports.eq_1)) (And.intro (@Mini.exports.eq_2) (@Mini.bin.eq_1)))))))) (And.intro (And.intro (And.intro (And.intro (And.intro (And.intro (@Mini.bin.eq_2) (And.intro (@Mini.bin.eq_3) (@Mini.bin.eq_4))) (And.intro (@Mini.bin.eq_5) (And.intro (@Mini.binInt.eq_1) (@Mini.binInt.eq_2)))) (And.intro (And.intro (@Mini.binInt.eq_3) (And.intro (@Mini.binInt.eq_4) (@Mini.binInt.eq_5))) (And.intro (And.intro (@Mini.binInt.eq_6) (@Mini.binInt.eq_7)) (And.intro (@Mini.binInt.eq_8) (@Mini.binInt.eq_9))))) (And.intro (And.intro (And.intro (@Mini.binInt.eq_10) (And.intro (@Mini.binInt.eq_11) (@Mini.binInt.eq_12))) (And.intro (And.intro (@Mini.binInt.eq_13) (@Mini.binInt.eq_14)) (And.intro (@Mini.binInt.eq_15) (@Mini.binInt.eq_16)))) (And.intro (And.intro (@Mini.un.eq_1) (And.intro (@Mini.un.eq_2) (@Mini.un.eq_3))) (And.intro (And.intro (@Mini.un.eq_4) (@Mini.i64.eq_1)) (And.intro (@Mini.bl.eq_1) (@asNat_nat)))))) (And.intro (And.intro (And.intro (And.intro (@ob_eq) (And.intro (@setOb_eq) (@Mini.ofCells.eq_def))) (And.intro (@Mini.V.cells.eq_1) (And.intro (@Mini.V.cells.eq_2) (@Mini.V.cells.eq_3)))) (And.intro (And.intro (@List.length_cons.{0}) (And.intro (@List.length_nil.{0}) (@Option.map_some.{0, 0}))) (And.intro (And.intro (@if_true.{1}) (@if_false.{1})) (And.intro (@decide_true) (@decide_false))))) (And.intro (And.intro (And.intro (@List.append_nil.{0}) (And.intro (@List.all_nil.{0}) (@cond_true.{1}))) (And.intro (And.intro (@cond_false.{1}) (@Nat.zero_add)) (And.intro (@Nat.add_zero) (@Nat.mul_one)))) (And.intro (And.intro (@Nat.one_mul) (And.intro (@and_self) (@Int.ofNat_eq_natCast))) (And.intro (And.intro (@Bool.false_eq_true) (@decide_eq_true_eq)) (And.intro (@true_and) (@and_true))))))) (And.intro (And.intro (And.intro (And.intro (And.intro (@false_and) (And.intro (@and_false) (@an0))) (And.intro (@an1) (And.intro (@an2) (@ex_block)))) (And.intro (And.intro (@ex_loopk) (And.intro (@Mini.keepOnly.eq_1) (@Mini.keepOnly.eq_2))) (And.intro (And.intro (@List.contains_cons.{0}) (@List.contains_nil.{0})) (And.intro (@Bool.or_false) (@Bool.or_true))))) (And.intro (And.intro (And.intro (@Bool.false_or) (And.intro (@Bool.true_or) (@bk_nrm))) (And.intro (And.intro (@bk_ret) (@bk_exit)) (And.intro (@Mini.pad.eq_1) (@List.replicate.eq_1.{0})))) (And.intro (And.intro (@List.replicate.eq_2.{0}) (And.intro (@List.cons_append.{0}) (@List.nil_append.{0}))) (And.intro (And.intro (@Mini.results.eq_1) (@Mini.result.eq_1)) (And.intro (@Mini.result.eq_2) (@Mini.mapO.eq_1)))))) (And.intro (And.intro (And.intro (And.intro (@Mini.mapO.eq_2) (And.intro (@Mini.byValue.eq_1) (@Mini.deepV1.eq_1))) (And.intro (@Mini.deepV1.eq_2) (And.intro (@Mini.deepV1.eq_3) (@Mini.deepC.eq_1)))) (And.intro (And.intro (@Mini.deepC.eq_2) (And.intro (@Mini.deepC.eq_3) (@Mini.deepC.eq_4))) (And.intro (And.intro (@Mini.deepC.eq_5) (@Mini.V.flat.eq_1)) (And.intro (@Mini.V.flat.eq_2) (@Mini.V.flat1.eq_1))))) (And.intro (And.intro (And.intro (@Mini.V.flat1.eq_2) (And.intro (@Mini.V.flat1.eq_3) (@Mini.C.flat.eq_1))) (And.intro (And.intro (@Mini.C.flat.eq_2) (@Mini.D.flat.eq_1)) (And.intro (@Mini.D.flat.eq_2) (@Mini.D.flat.eq_3)))) (And.intro (And.intro (@Mini.D.flat.eq_4) (And.intro (@bne_self_eq_false.{0}) (@Int.lt_irrefl))) (And.intro (And.intro (@zenv_call) (@beq_self_eq_true.{0})) (And.intro (@List.getElem?_cons_zero.{0}) (@List.getElem?_cons_succ.{0}))))))))
end Mini
end Go.Proofs.YtgjlofpfbhioaaaGreatDoor
namespace Go.Proofs.YtgjlofpfbhioaaaGreatDoor
namespace Mini
open Go
def XOk (m : Int) (X : Ctx) : Prop := CtxLe (XA m) X
theorem XOk.fns {m : Int} {X : Ctx} (h : XOk m X) (k : FuncId) (F : Fn) (hk : fnsA k = some F) : X.fns k = some F := CtxLe.fns (X := XA m) h hk
theorem prim0_none {k : FuncId} {F : Fn} (hk : fnsA k = some F) (vs : List V) : prim0 k vs = none := by
  unfold prim0
  split <;> first | rfl | (exact absurd hk (by simp [fnsA]))
theorem XOk.npr {m : Int} {X : Ctx} (h : XOk m X) (k : FuncId) (F : Fn) (hk : fnsA k = some F) (vs : List V) : X.prim k vs = none := CtxLe.npr (X := XA m) h hk vs (prim0_none hk vs)
theorem XOk.prim {m : Int} {X : Ctx} (h : XOk m X) (k : FuncId) (vs : List V) (r : V) (hk : prim0 k vs = some r) : X.prim k vs = some r := CtxLe.prim (X := XA m) h hk
theorem XOk.run {m : Int} {X : Ctx} (h : XOk m X) {n n' : Nat} {f : FuncId} {vs : List V} {r : V} (hr : vcallN (XA m) n f vs = some r) (hn : n ≤ n') : vcallN X n' f vs = some r := vcallN_le h hn hr
theorem XOk.fn {m : Int} {X : Ctx} (h : XOk m X) {k : FuncId} {F : Fn} (hk : fnsA k = some F) {n : Nat} {args : List V} {H : Heap} : callN X (n + 1) (.d (.fn k [] [])) args H = runFn (zenv X n) n F args H := callN_fn (h.fns _ _ hk)
theorem XOk.vc {m : Int} {X : Ctx} (h : XOk m X) {k : FuncId} {F : Fn} (hk : fnsA k = some F) {n : Nat} {vs : List V} {r : V} (hr : vcallN X n k vs = some r) : (zenv X n).vcall k vs = some r := zenv_vcall (h.npr _ _ hk vs) hr
theorem first_lt (p : Nat → Prop) [DecidablePred p] : ∀ n : Nat, (∀ j, j < n → ¬ p j) ∨ ∃ k, k < n ∧ p k ∧ ∀ j, j < k → ¬ p j
  | 0 => .inl (fun j h => absurd h (Nat.not_lt_zero j))
  | n + 1 => by
    rcases first_lt p n with h | ⟨k, h1, h2, h3⟩
    · by_cases hp : p n
      · exact .inr ⟨n, Nat.lt_succ_self n, hp, h⟩
      · left
        intro j hj
        rcases Nat.lt_succ_iff_lt_or_eq.1 hj with h4 | rfl
        · exact h j h4
        · exact hp
    · exact .inr ⟨k, Nat.lt_succ_of_lt h1, h2, h3⟩
theorem iter_scan {js : Option (List Nat)} {hl : Nat} {body : St → Option (Ex × St)} (p : Nat → Prop) [DecidablePred p] (n : Nat) (R : Nat → St) {b : Nat} {s1 : St} {s2 : Nat → St} {fuel : Nat} (hf : n < fuel)
    (hround : ∀ j, j < n → ¬ p j → ∃ s', body (R j) = some (.nrm, s') ∧ tidy hl js s' = R (j + 1))
    (hend : body (R n) = some (.exit b, s1)) (hhit : ∀ k, k < n → p k → body (R k) = some (.ret, s2 k)) :
    ((∀ j, j < n → ¬ p j) ∧ iter js hl body fuel (R 0) = some (.exit b, s1)) ∨ ∃ k, k < n ∧ p k ∧ (∀ j, j < k → ¬ p j) ∧ iter js hl body fuel (R 0) = some (.ret, s2 k) := by
  rcases first_lt p n with h | ⟨k, h1, h2, h3⟩
  · refine .inl ⟨h, iter_to R (by simp) n 0 fuel (fun j _ hj => hround j (by omega) (h j (by omega))) (by rw [Nat.zero_add]; exact hend) hf⟩
  · refine .inr ⟨k, h1, h2, h3, iter_to R (by simp) k 0 fuel (fun j _ hj => hround j (by omega) (h3 j (by omega))) (by rw [Nat.zero_add]; exact hhit k h1 h2) (by omega)⟩
def slU (l : List Nat) : V := .c (.d (.sl (l.map u32D) l.length))
def cmp1 (x y : Nat) : Int := if x < y then -1 else if y < x then 1 else 0
def cmpL : List Nat → List Nat → Int
  | [], [] => 0
  | [], _ :: _ => -1
  | _ :: _, [] => 1
  | x :: a, y :: b => if cmp1 x y ≠ 0 then cmp1 x y else cmpL a b
variable {m : Int} {X : Ctx}
theorem f135 (hX : XOk m X) {N : Nat} (hN : 1 ≤ N) (x : Nat) : vcallN X N 135 [.c (.d (u32D x))] = some (bl false) := by
  obtain ⟨N, rfl⟩ : ∃ M, N = M + 1 := ⟨N - 1, by omega⟩
  refine vcall_of (r := bl false) (H := []) ?_ rfl
  rw [hX.fn (F := fn135) rfl]
  refine (rf_fin _ _ _ _ _ _ _ _ _ (by rfl)).trans ?_
  simp only [u32D, evs, Nat.reduceSub]
theorem f109 (hX : XOk m X) {N : Nat} (hN : 2 ≤ N) (x y : Nat) : vcallN X N 109 [.c (.d (u32D x)), .c (.d (u32D y))] = some (i64 (cmp1 x y)) := by
  obtain ⟨N, rfl⟩ : ∃ M, N = M + 1 := ⟨N - 1, by omega⟩
  refine vcall_of (r := i64 (cmp1 x y)) (H := []) ?_ rfl
  rw [hX.fn (F := fn109) rfl]
  refine (rf_fin _ _ _ _ _ _ _ _ _ (by rfl)).trans ?_
  have h1 := hX.vc (k := 135) (F := fn135) rfl (f135 hX (N := N) (by omega) x)
  have h2 := hX.vc (k := 135) (F := fn135) rfl (f135 hX (N := N) (by omega) y)
  simp only [u32D, bl] at h1 h2
  by_cases c1 : (x : Int) < y
  · have : cmp1 x y = -1 := by unfold cmp1; rw [if_pos (by omega)]
    simp only [u32D, h1, h2, c1, this, evs, Nat.reduceAdd, Nat.reduceSub]
  by_cases c2 : (x : Int) > y
  · have : cmp1 x y = 1 := by unfold cmp1; rw [if_neg (by omega), if_pos (by omega)]
    simp only [u32D, h1, h2, c1, c2, this, evs, Nat.reduceAdd, Nat.reduceSub]
  · have : cmp1 x y = 0 := by unfold cmp1; rw [if_neg (by omega), if_neg (by omega)]
    simp only [u32D, h1, h2, c1, c2, this, evs, Nat.reduceAdd, Nat.reduceSub]
def c1L (a b : List Nat) (i : Nat) : Bool := decide (b.length ≤ i) || decide (cmp1 (a.getD i 0) (b.getD i 0) ≠ 0)
theorem cmpL_go (a b : List Nat) : ∀ i, i ≤ a.length → i ≤ b.length → (∀ j, j < i → c1L a b j = false) → cmpL a b = cmpL (a.drop i) (b.drop i)
  | 0, _, _, _ => by simp
  | i + 1, h1, h2, h => by
    rw [cmpL_go a b i (by omega) (by omega) (fun j hj => h j (by omega))]
    have h3 := h i (by omega)
    simp only [c1L, Bool.or_eq_false_iff, decide_eq_false_iff_not, Decidable.not_not] at h3
    rw [List.drop_eq_getElem_cons (by omega : i < a.length), List.drop_eq_getElem_cons (by omega : i < b.length)]
    rw [List.getD_eq_getElem?_getD, List.getD_eq_getElem?_getD, List.getElem?_eq_getElem (by omega : i < a.length), List.getElem?_eq_getElem (by omega : i < b.length)] at h3
    simp only [Option.getD_some] at h3
    rw [cmpL, if_neg (by rw [h3.2]; simp)]
theorem cmpL_end (a b : List Nat) (h : ∀ j, j < a.length → c1L a b j = false) : a.length ≤ b.length ∧ cmpL a b = if a.length < b.length then -1 else 0 := by
  have hl : a.length ≤ b.length := by
    cases hc : a.length with
    | zero => exact Nat.zero_le _
    | succ n =>
      have := h n (by omega)
      simp only [c1L, Bool.or_eq_false_iff, decide_eq_false_iff_not] at this
      omega
  refine ⟨hl, ?_⟩
  rw [cmpL_go a b a.length (Nat.le_refl _) hl h, List.drop_length]
  by_cases hlt : a.length < b.length
  · rw [if_pos hlt, List.drop_eq_getElem_cons hlt]; rfl
  · rw [if_neg hlt, List.drop_of_length_le (by omega)]; rfl
theorem cmpL_hit (a b : List Nat) (k : Nat) (hk : k < a.length) (h : ∀ j, j < k → c1L a b j = false) (hc : c1L a b k = true) : cmpL a b = if b.length ≤ k then 1 else cmp1 (a.getD k 0) (b.getD k 0) := by
  have hl : k ≤ b.length := by
    cases hc : k with
    | zero => exact Nat.zero_le _
    | succ n =>
      have := h n (by omega)
      simp only [c1L, Bool.or_eq_false_iff, decide_eq_false_iff_not] at this
      omega
  rw [cmpL_go a b k (by omega) hl h, List.drop_eq_getElem_cons hk]
  by_cases hb : b.length ≤ k
  · rw [if_pos hb, List.drop_of_length_le hb]; rfl
  · rw [if_neg hb, List.drop_eq_getElem_cons (by omega : k < b.length)]
    simp only [c1L, hb, decide_false, Bool.false_or, decide_eq_true_eq] at hc
    rw [List.getD_eq_getElem?_getD, List.getD_eq_getElem?_getD, List.getElem?_eq_getElem hk, List.getElem?_eq_getElem (by omega : k < b.length)] at hc ⊢
    simp only [Option.getD_some] at hc ⊢
    rw [cmpL, if_pos hc]
theorem u32_at (l : List Nat) (i : Nat) (h : i < l.length) : ((l.map u32D).drop i).take 1 = [u32D (l.getD i 0)] := by
  rw [List.drop_eq_getElem_cons (by simpa using h), List.getD_eq_getElem?_getD, List.getElem?_eq_getElem h]
  simp
abbrev R85 (a b : List Nat) (i : Nat) : List V := [slU a, slU b, .any, .any, .any, .any, .any, slU a, i64 (a.length : Int), i64 (i : Int), .any, .any, .any, .any]
abbrev S85 (a b : List Nat) (k : Nat) : List V := if b.length ≤ k then [slU a, slU b, i64 1, i64 (k : Int), .c (.d (u32D (a.getD k 0))), .any, .any, slU a, i64 (a.length : Int), i64 (k : Int), bl true, bl true, .any, .any]
  else [slU a, slU b, i64 (cmp1 (a.getD k 0) (b.getD k 0)), i64 (k : Int), .c (.d (u32D (a.getD k 0))), .c (.d (u32D (b.getD k 0))), i64 (cmp1 (a.getD k 0) (b.getD k 0)), slU a, i64 (a.length : Int), i64 (k : Int), bl true, bl false, bl true, .any]
theorem f85 (hX : XOk m X) {N : Nat} {a b : List Nat} (hN : a.length + 4 ≤ N) (ha : a.length < 1000) : vcallN X N 85 [slU a, slU b] = some (i64 (cmpL a b)) := by
  obtain ⟨N, rfl⟩ : ∃ M, N = M + 1 := ⟨N - 1, by omega⟩
  have hF : fnsA 85 = some fn85' := rfl
  refine vcall_of (r := i64 (cmpL a b)) (H := []) ?_ rfl
  rw [hX.fn hF]
  refine (rf_fin _ _ _ _ _ _ _ _ _ (by rfl)).trans ?_
  have hc : ∀ x y, (zenv X N).vcall 109 [.c (.d (u32D x)), .c (.d (u32D y))] = some (i64 (cmp1 x y)) := fun x y => hX.vc (k := 109) (F := fn109) rfl (f109 hX (N := N) (by omega) x y)
  simp only [u32D, i64] at hc
  have hsc := iter_scan (js := some [0, 1, 7, 8, 9]) (hl := 0) (body := exec (zenv X N) N false fn85L0) (fun j => c1L a b j = true) a.length (fun i => ⟨R85 a b i, []⟩) (b := 0) (s1 := ⟨[slU a, slU b, .any, .any, .any, .any, .any, slU a, i64 (a.length : Int), i64 (a.length : Int), bl false, .any, .any, .any], []⟩) (s2 := fun k => ⟨S85 a b k, []⟩) (fuel := N) (by omega)
    (by
      intro j hj hp
      simp only [c1L, Bool.or_eq_true, decide_eq_true_eq, not_or, Decidable.not_not, Nat.not_le] at hp
      have h1 : (j : Int) < (a.length : Int) := by omega
      have h2 := u32_at a j hj
      have h3 := u32_at b j hp.1
      have h4 : ¬ (j : Int) ≥ (b.length : Int) := by omega
      have h5 := wrap_succ (k := j) (by omega)
      have h6 := hc (a.getD j 0) (b.getD j 0)
      rw [hp.2] at h6
      simp only [u32D] at h2 h3
      refine ⟨⟨[slU a, slU b, .any, i64 (j : Int), .c (.d (u32D (a.getD j 0))), .c (.d (u32D (b.getD j 0))), i64 0, slU a, i64 (a.length : Int), i64 ((j + 1 : Nat) : Int), bl true, bl false, bl false, .any], []⟩, ?_, gc_le (Nat.le_refl 0)⟩
      simp only [fn85L0, slU, u32D, h1, h2, h3, h4, h5, h6, hj, hp.1, List.length_map, List.map_cons, List.map_nil, ↓sp_len, ↓sp_ixa, evs])
    (by simp only [fn85L0, evs])
    (by
      intro k hk hp
      have h1 : (k : Int) < (a.length : Int) := by omega
      have h2 := u32_at a k hk
      simp only [u32D] at h2
      by_cases hb : b.length ≤ k
      · have h4 : (k : Int) ≥ (b.length : Int) := by omega
        simp only [fn85L0, S85, slU, u32D, h1, h2, h4, hk, hb, List.length_map, List.map_cons, List.map_nil, ↓sp_len, ↓sp_ixa, evs]
      · have h3 := u32_at b k (by omega)
        have h4 : ¬ (k : Int) ≥ (b.length : Int) := by omega
        have hb2 : k < b.length := by omega
        have h6 := hc (a.getD k 0) (b.getD k 0)
        simp only [u32D] at h3
        simp only [c1L, hb, decide_false, Bool.false_or, decide_eq_true_eq] at hp
        have h7 : (cmp1 (a.getD k 0) (b.getD k 0) != 0) = true := by simpa using hp
        simp only [fn85L0, S85, slU, u32D, h1, h2, h3, h4, h6, h7, hk, hb, hb2, List.length_map, List.map_cons, List.map_nil, ↓sp_len, ↓sp_ixa, evs])
  simp only [R85, S85, i64, bl, Int.natCast_zero, slU] at hsc
  rcases hsc with ⟨hno, hit⟩ | ⟨k, hk, hp, hno, hit⟩
  · obtain ⟨h8, h9⟩ := cmpL_end a b (fun j hj => Bool.eq_false_iff.2 (hno j hj))
    rw [h9]
    by_cases hlt : a.length < b.length
    · have h10 : (a.length : Int) < (b.length : Int) := by omega
      simp only [slU, hit, hlt, h10, ↓sp_len, evs, Nat.reduceAdd, Nat.reduceBEq, Nat.reduceSub]
    · have h10 : ¬ (a.length : Int) < (b.length : Int) := by omega
      simp only [slU, hit, hlt, h10, ↓sp_len, evs, Nat.reduceAdd, Nat.reduceBEq, Nat.reduceSub]
  · have h9 := cmpL_hit a b k hk (fun j hj => Bool.eq_false_iff.2 (hno j hj)) hp
    rw [h9]
    by_cases hb : b.length ≤ k
    · simp only [hb, if_true] at hit
      simp only [slU, hit, hb, ↓sp_len, evs, Nat.reduceAdd, Nat.reduceBEq, Nat.reduceSub]
    · simp only [hb, if_false] at hit
      simp only [slU, hit, hb, ↓sp_len, evs, Nat.reduceAdd, Nat.reduceBEq, Nat.reduceSub]
end Mini
end Go.Proofs.YtgjlofpfbhioaaaGreatDoor
namespace Go.Proofs.YtgjlofpfbhioaaaGreatDoor
namespace Mini
open Go
theorem fns_apart {f : FuncId} {F : Fn} (h : fnsA f = some F) : fnsJ f = none := by
  unfold fnsA at h
  split at h <;> first | rfl | cases h
theorem XA_le (m : Int) : CtxLe (XA m) (XJ m) where
  fns := fun {f F} h => by
    show fnsX f = some F
    unfold fnsX
    rw [fns_apart h]
    exact h
  prim := fun {f vs r} h => by
    show primJ f vs = some r
    unfold primJ
    split
    · have h' : prim0 122 vs = some r := h
      cases h'
    · exact h
  npr := fun {f F} h vs _ => by
    show primJ f vs = none
    unfold primJ
    split
    · cases h
    · exact prim0_none h vs
  hprim := fun {f vs H r} h1 h2 => by
    have h2' : hprim0 f vs H = some r := h2
    have h3 : f = 138 := by
      unfold hprim0 at h2'
      split at h2'
      · exact rfl
      · cases h2'
    rcases h3 with rfl <;> exact ⟨rfl, h2, fun vs h => h⟩
  bprim := fun h => by cases h
  glob := rfl
def XOj (m : Int) (X : Ctx) : Prop := CtxLe (XJ m) X
theorem lives43_runF (m : Int) : vcallF (XJ m) 300 40 [] = some (.c (.d (.bool true))) := by kernel_rfl
theorem lives43_run (m : Int) : vcallN (XJ m) 300 40 [] = some (.c (.d (.bool true))) := by
  rw [← vcallF_eq]
  exact lives43_runF m
theorem CtxLe.trans {A B C : Ctx} (h1 : CtxLe A B) (h2 : CtxLe B C) : CtxLe A C where
  fns h := h2.fns (h1.fns h)
  prim h := h2.prim (h1.prim h)
  npr h vs hp := h2.npr (h1.fns h) vs (h1.npr h vs hp)
  hprim := fun ha hb => by
    obtain ⟨a, b, c⟩ := h1.hprim ha hb
    obtain ⟨d, e, g⟩ := h2.hprim a b
    exact ⟨d, e, fun vs hn => g vs (c vs hn)⟩
  bprim h := h2.bprim (h1.bprim h)
  glob := h2.glob.trans h1.glob
theorem XOj.x {m : Int} {X : Ctx} (h : XOj m X) : XOk m X := CtxLe.trans (XA_le m) h
theorem XJOj (m : Int) : XOj m (XJ m) := CtxLe.refl _
theorem primJ_none {k : FuncId} {F : Fn} (hk : fnsX k = some F) (vs : List V) : primJ k vs = none := by
  unfold primJ prim0
  split
  · cases hk
  · split <;> first | rfl | cases hk
theorem XOj.fn {m : Int} {X : Ctx} (h : XOj m X) {k : FuncId} {F : Fn} (hk : fnsX k = some F) {n : Nat} {args : List V} {H : Heap} : callN X (n + 1) (.d (.fn k [] [])) args H = runFn (zenv X n) n F args H := callN_fn (CtxLe.fns (X := XJ m) h hk)
theorem XOj.vc {m : Int} {X : Ctx} (h : XOj m X) {k : FuncId} {F : Fn} (hk : fnsX k = some F) {n : Nat} {vs : List V} {r : V} (hr : vcallN X n k vs = some r) : (zenv X n).vcall k vs = some r := zenv_vcall (CtxLe.npr (X := XJ m) h hk vs (primJ_none hk vs)) hr
theorem XOj.prim {m : Int} {X : Ctx} (h : XOj m X) {k : FuncId} {vs : List V} {r : V} (hk : primJ k vs = some r) : X.prim k vs = some r := CtxLe.prim (X := XJ m) h hk
theorem XOj.run {m : Int} {X : Ctx} (h : XOj m X) {n n' : Nat} {f : FuncId} {vs : List V} {r : V} (hr : vcallN (XJ m) n f vs = some r) (hn : n ≤ n') : vcallN X n' f vs = some r := vcallN_le h hn hr
theorem f40 {m : Int} {X : Ctx} (hX : XOj m X) {N : Nat} (hN : 300 ≤ N) : (zenv X N).vcall 40 [] = some (.c (.d (.bool true))) := hX.vc (k := 40) (F := fn40) rfl (hX.run (lives43_run m) hN)
end Mini
end Go.Proofs.YtgjlofpfbhioaaaGreatDoor
namespace Go.Proofs.YtgjlofpfbhioaaaGreatDoor
namespace Mini
def fn47L0 : I := .seq (.reg false [⟨none, .bin .lss (.r 19) (.r 18)⟩] [(20, 0)] []) ( .seq (.cond (.r 20) ( .skip) ( .exit 2)) ( .seq (.block 3 ( .seq (.reg false [⟨none, .mov (.r 19)⟩, ⟨none, .ixa 5 (.r 17) (.r 19)⟩, ⟨none, .ld true 5 (.l 0)⟩, ⟨none, .pre⟩, ⟨none, .mov (.l 3)⟩, ⟨none, .ini 5 (.l 2)⟩] [(8, 1), (9, 0)] []) ( .seq (.reg false [⟨none, .mov (.r 3)⟩, ⟨none, .fa 0 (.r 9)⟩, ⟨none, .ld false 1 (.l 0)⟩, ⟨none, .lkp false (.c (.d (.int .i64 0))) (.l 2) (.l 0)⟩, ⟨none, .mov (.r 8)⟩, ⟨none, .bin .eql (.l 1) (.l 0)⟩] [(21, 0)] []) ( .cond (.r 21) ( .seq (.reg false [⟨none, .fa 4 (.r 9)⟩, ⟨none, .ld false 1 (.l 0)⟩, ⟨none, .vc 79 [(.l 0)]⟩, ⟨none, .fa 4 (.r 9)⟩, ⟨none, .st 1 (.l 0) (.l 1)⟩] [] []) ( .reg false [⟨none, .mov (.r 7)⟩, ⟨none, .ld true 5 (.r 9)⟩, ⟨none, .bsl 1 5 [.str [], .bool false, .int .u8 0, .int .i64 0, .nils] [(0, 5, (.l 0))]⟩, ⟨none, .app 5 (.l 2) (.l 0)⟩, ⟨none, .mov (.l 0)⟩] [(7, 0)] [])) ( .skip))))) ( .reg false [⟨none, .bin .add (.r 19) (.v (.c (.d (.int .i64 1))))⟩, ⟨none, .mov (.l 0)⟩] [(19, 0)] [])))
def fn47L1 : I := .seq (.reg false [⟨none, .bin .lss (.r 13) (.r 12)⟩] [(14, 0)] []) ( .seq (.cond (.r 14) ( .skip) ( .exit 0)) ( .seq (.block 1 ( .seq (.reg false [⟨none, .mov (.r 13)⟩, ⟨none, .ixa 5 (.r 11) (.r 13)⟩, ⟨none, .ld true 5 (.l 0)⟩, ⟨none, .pre⟩, ⟨none, .mov (.l 3)⟩, ⟨none, .ini 5 (.l 2)⟩] [(4, 1), (5, 0)] []) ( .seq (.seq (.reg false [⟨none, .ld true 5 (.r 5)⟩, ⟨none, .vc 48 [(.l 0)]⟩, ⟨none, .mov (.l 0)⟩] [(6, 0)] []) ( .seq (.reg false [⟨none, .mov (.r 6)⟩, ⟨none, .bin .neq (.l 0) (.v (.c (.d (.int .i64 0))))⟩] [(15, 0)] []) ( .cond (.r 15) ( .seq (.reg false [⟨none, .mov (.r 6)⟩, ⟨none, .mov (.v (.c (.d (.nils))))⟩, ⟨none, .mov (.l 1)⟩] [(1, 1), (2, 0)] []) ( .ret)) ( .skip)))) ( .reg false [⟨none, .mov (.r 3)⟩, ⟨none, .fa 0 (.r 5)⟩, ⟨none, .ld false 1 (.l 0)⟩, ⟨none, .mov (.r 4)⟩, ⟨none, .mpu (.l 3) (.l 1) (.l 0)⟩] [] [])))) ( .reg false [⟨none, .bin .add (.r 13) (.v (.c (.d (.int .i64 1))))⟩, ⟨none, .mov (.l 0)⟩] [(13, 0)] [])))
def fn47' : Fn := ⟨1, 22, [0, 2, 3, 4, 5, 6, 7, 8, 9, 10, 13, 15, 16, 17, 18, 25, 34, 38, 39, 40, 41, 50], [.r 1, .r 2], .seq (.reg false [⟨none, .mov (.v (.c (.d (.nils))))⟩, ⟨none, .mov (.v (.c (.d (.int .i64 0))))⟩] [(1, 1), (2, 0)] []) ( .seq (.seq (.reg false [⟨none, .mov (.r 0)⟩, ⟨none, .len (.l 0)⟩, ⟨none, .bin .gtr (.l 0) (.v (.c (.d (.int .i64 4096))))⟩] [(10, 0)] []) ( .cond (.r 10) ( .seq (.reg false [⟨none, .mov (.v (.c (.d (.nils))))⟩, ⟨none, .mov (.v (.c (.d (.int .i64 3))))⟩] [(1, 1), (2, 0)] []) ( .ret)) ( .skip))) ( .seq (.reg false [⟨none, .mkm⟩, ⟨none, .mov (.l 0)⟩] [(3, 0)] []) ( .seq (.seq (.reg false [⟨none, .mov (.r 0)⟩, ⟨none, .len (.l 0)⟩, ⟨none, .mov (.v (.c (.d (.int .i64 0))))⟩] [(11, 2), (12, 1), (13, 0)] []) ( .block 0 ( .loop (some [0, 3, 11, 12, 13]) fn47L1))) ( .seq (.seq (.reg false [⟨none, .mov (.r 3)⟩, ⟨none, .lnm (.l 0)⟩, ⟨none, .bin .eql (.l 0) (.v (.c (.d (.int .i64 0))))⟩] [(16, 0)] []) ( .cond (.r 16) ( .seq (.reg false [⟨none, .mov (.v (.c (.d (.nils))))⟩, ⟨none, .mov (.v (.c (.d (.int .i64 0))))⟩] [(1, 1), (2, 0)] []) ( .ret)) ( .skip))) ( .seq (.reg false [⟨none, .mov (.r 3)⟩, ⟨none, .lnm (.l 0)⟩, ⟨none, .mks 5 56 [.str [], .bool false, .int .u8 0, .int .i64 0, .nils] (.v (.c (.d (.int .i64 0)))) (.l 0)⟩, ⟨none, .mov (.l 0)⟩] [(7, 0)] []) ( .seq (.seq (.reg false [⟨none, .mov (.r 0)⟩, ⟨none, .len (.l 0)⟩, ⟨none, .mov (.v (.c (.d (.int .i64 0))))⟩] [(17, 2), (18, 1), (19, 0)] []) ( .block 2 ( .seq (.fresh 7 none 5) ( .loop (some [3, 7, 17, 18, 19]) fn47L0)))) ( .seq (.reg false [⟨none, .mov (.r 7)⟩, ⟨none, .hc (.v (.c (.d (.fn 80 [] [])))) [(.l 0), (.v (.c (.d (.fn 81 [] []))))]⟩] [] []) ( .seq (.reg false [⟨none, .mov (.r 7)⟩, ⟨none, .mov (.l 0)⟩, ⟨none, .mov (.v (.c (.d (.int .i64 0))))⟩] [(1, 1), (2, 0)] []) ( .ret)))))))))⟩
def fn47 : Fn := fn47'
def fn80' : Fn := ⟨2, 3, [0, 1, 4], [], .seq (.reg false [⟨none, .mov (.r 0)⟩, ⟨none, .len (.l 0)⟩, ⟨none, .mov (.l 0)⟩] [(2, 0)] []) ( .reg false [⟨none, .mov (.r 0)⟩, ⟨none, .mov (.r 2)⟩, ⟨none, .mov (.r 2)⟩, ⟨none, .cvi .u64 (.l 0)⟩, ⟨none, .vc 105 [(.l 0)]⟩, ⟨none, .mov (.r 1)⟩, ⟨none, .hc (.v (.c (.d (.fn 104 [] [])))) [(.l 5), (.v (.c (.d (.int .i64 0)))), (.l 4), (.l 1), (.l 0)]⟩] [] [])⟩
def fn80 : Fn := fn80'
def fn81' : Fn := ⟨2, 5, [0, 1, 2, 3, 4], [.r 4], .seq (.reg false [⟨none, .box (.r 0)⟩, ⟨none, .box (.r 1)⟩, ⟨none, .mov (.v (.c (.d (.int .i64 0))))⟩] [(2, 2), (3, 1), (4, 0)] []) ( .seq (.reg false [⟨none, .fa 0 (.r 2)⟩, ⟨none, .ld false 1 (.l 0)⟩, ⟨none, .fa 0 (.r 3)⟩, ⟨none, .ld false 1 (.l 0)⟩, ⟨none, .vc 82 [(.l 2), (.l 0)]⟩, ⟨none, .mov (.l 0)⟩] [(4, 0)] []) ( .ret))⟩
def fn81 : Fn := fn81'
def fn82' : Fn := ⟨2, 10, [0, 1, 4, 5, 6, 11, 12, 13, 16, 19], [.r 2], .seq (.reg false [⟨none, .mov (.v (.c (.d (.int .i64 0))))⟩] [(2, 0)] []) ( .seq (.reg false [⟨none, .mov (.r 0)⟩, ⟨none, .vc 106 [(.l 0)]⟩, ⟨none, .mov (.l 0)⟩] [(3, 0)] []) ( .seq (.reg false [⟨none, .mov (.r 1)⟩, ⟨none, .vc 106 [(.l 0)]⟩, ⟨none, .mov (.l 0)⟩] [(4, 0)] []) ( .seq (.seq (.reg false [⟨none, .mov (.r 3)⟩] [(5, 0)] []) ( .cond (.r 5) ( .seq (.seq (.reg false [⟨none, .mov (.r 4)⟩] [(6, 0)] []) ( .cond (.r 6) ( .seq (.reg false [⟨none, .mov (.v (.c (.d (.int .i64 0))))⟩] [(2, 0)] []) ( .ret)) ( .skip))) ( .seq (.reg false [⟨none, .mov (.v (.c (.d (.int .i64 (-1)))))⟩] [(2, 0)] []) ( .ret))) ( .skip))) ( .seq (.seq (.reg false [⟨none, .mov (.r 4)⟩] [(7, 0)] []) ( .cond (.r 7) ( .seq (.reg false [⟨none, .mov (.v (.c (.d (.int .i64 1))))⟩] [(2, 0)] []) ( .ret)) ( .skip))) ( .seq (.seq (.reg false [⟨none, .mov (.r 0)⟩, ⟨none, .mov (.r 1)⟩, ⟨none, .bin .lss (.l 1) (.l 0)⟩] [(8, 0)] []) ( .cond (.r 8) ( .seq (.reg false [⟨none, .mov (.v (.c (.d (.int .i64 (-1)))))⟩] [(2, 0)] []) ( .ret)) ( .skip))) ( .seq (.seq (.reg false [⟨none, .mov (.r 0)⟩, ⟨none, .mov (.r 1)⟩, ⟨none, .bin .gtr (.l 1) (.l 0)⟩] [(9, 0)] []) ( .cond (.r 9) ( .seq (.reg false [⟨none, .mov (.v (.c (.d (.int .i64 1))))⟩] [(2, 0)] []) ( .ret)) ( .skip))) ( .seq (.reg false [⟨none, .mov (.v (.c (.d (.int .i64 0))))⟩] [(2, 0)] []) ( .ret))))))))⟩
def fn82 : Fn := fn82'
def fn104L0 : I := .block 1 ( .seq (.reg false [⟨none, .mov (.r 2)⟩, ⟨none, .mov (.r 1)⟩, ⟨none, .bin .sub (.l 1) (.l 0)⟩, ⟨none, .mov (.l 0)⟩] [(7, 0)] []) ( .seq (.seq (.reg false [⟨none, .mov (.r 7)⟩, ⟨none, .bin .leq (.l 0) (.v (.c (.d (.int .i64 12))))⟩] [(16, 0)] []) ( .cond (.r 16) ( .seq (.reg false [⟨none, .mov (.r 0)⟩, ⟨none, .mov (.r 1)⟩, ⟨none, .mov (.r 2)⟩, ⟨none, .mov (.r 4)⟩, ⟨none, .hc (.v (.c (.d (.fn 125 [] [])))) [(.l 3), (.l 2), (.l 1), (.l 0)]⟩] [] []) ( .ret)) ( .skip))) ( .seq (.seq (.reg false [⟨none, .mov (.r 3)⟩, ⟨none, .bin .eql (.l 0) (.v (.c (.d (.int .i64 0))))⟩] [(17, 0)] []) ( .cond (.r 17) ( .seq (.reg false [⟨none, .mov (.r 0)⟩, ⟨none, .mov (.r 1)⟩, ⟨none, .mov (.r 2)⟩, ⟨none, .mov (.r 4)⟩, ⟨none, .hc (.v (.c (.d (.fn 126 [] [])))) [(.l 3), (.l 2), (.l 1), (.l 0)]⟩] [] []) ( .ret)) ( .skip))) ( .seq (.seq (.reg false [⟨none, .mov (.r 5)⟩, ⟨none, .un .not (.l 0)⟩] [(18, 0)] []) ( .cond (.r 18) ( .seq (.reg false [⟨none, .mov (.r 0)⟩, ⟨none, .mov (.r 1)⟩, ⟨none, .mov (.r 2)⟩, ⟨none, .mov (.r 4)⟩, ⟨none, .hc (.v (.c (.d (.fn 127 [] [])))) [(.l 3), (.l 2), (.l 1), (.l 0)]⟩] [] []) ( .reg false [⟨none, .mov (.r 3)⟩, ⟨none, .bin .sub (.l 0) (.v (.c (.d (.int .i64 1))))⟩, ⟨none, .mov (.l 0)⟩] [(3, 0)] [])) ( .skip))) ( .seq (.reg false [⟨none, .mov (.r 0)⟩, ⟨none, .mov (.r 1)⟩, ⟨none, .mov (.r 2)⟩, ⟨none, .mov (.r 4)⟩, ⟨none, .hc (.v (.c (.d (.fn 128 [] [])))) [(.l 3), (.l 2), (.l 1), (.l 0)]⟩, ⟨none, .mov (.l 0)⟩, ⟨none, .ext (.l 0) 0⟩, ⟨none, .ext (.l 1) 1⟩, ⟨none, .mov (.l 1)⟩, ⟨none, .mov (.l 1)⟩] [(8, 1), (9, 0)] []) ( .seq (.seq (.reg false [⟨none, .mov (.r 9)⟩, ⟨none, .bin .eql (.l 0) (.v (.c (.d (.int .i64 2))))⟩] [(19, 0)] []) ( .cond (.r 19) ( .seq (.reg false [⟨none, .mov (.r 0)⟩, ⟨none, .mov (.r 1)⟩, ⟨none, .mov (.r 2)⟩, ⟨none, .mov (.r 4)⟩, ⟨none, .hc (.v (.c (.d (.fn 129 [] [])))) [(.l 3), (.l 2), (.l 1), (.l 0)]⟩] [] []) ( .seq (.reg false [⟨none, .mov (.r 2)⟩, ⟨none, .bin .sub (.l 0) (.v (.c (.d (.int .i64 1))))⟩, ⟨none, .mov (.r 8)⟩, ⟨none, .mov (.r 1)⟩, ⟨none, .bin .sub (.l 1) (.l 0)⟩, ⟨none, .bin .sub (.l 3) (.l 0)⟩, ⟨none, .mov (.l 0)⟩] [(8, 0)] []) ( .reg false [⟨none, .mov (.v (.c (.d (.int .i64 1))))⟩] [(9, 0)] []))) ( .skip))) ( .seq (.seq (.reg false [⟨none, .mov (.r 5)⟩, ⟨none, .mov (.l 0)⟩, ⟨some (0, true), .mov (.r 6)⟩, ⟨none, .pick (.l 1) (.l 0) (.v (.c (.d (.bool false))))⟩, ⟨none, .mov (.l 0)⟩, ⟨some (0, true), .mov (.r 9)⟩, ⟨some (1, true), .bin .eql (.l 0) (.v (.c (.d (.int .i64 1))))⟩, ⟨none, .pick (.l 2) (.l 0) (.v (.c (.d (.bool false))))⟩] [(20, 0)] []) ( .cond (.r 20) ( .seq (.reg false [⟨none, .mov (.r 0)⟩, ⟨none, .mov (.r 1)⟩, ⟨none, .mov (.r 2)⟩, ⟨none, .mov (.r 4)⟩, ⟨none, .hc (.v (.c (.d (.fn 130 [] [])))) [(.l 3), (.l 2), (.l 1), (.l 0)]⟩] [(21, 0)] []) ( .cond (.r 21) ( .ret) ( .skip))) ( .skip))) ( .seq (.seq (.reg true [⟨none, .mov (.r 1)⟩, ⟨none, .bin .gtr (.l 0) (.v (.c (.d (.int .i64 0))))⟩, ⟨none, .mov (.l 0)⟩, ⟨some (0, true), .mov (.r 4)⟩, ⟨some (1, true), .mov (.r 0)⟩, ⟨some (2, true), .mov (.r 1)⟩, ⟨some (3, true), .bin .sub (.l 0) (.v (.c (.d (.int .i64 1))))⟩, ⟨some (4, true), .ixa 5 (.l 2) (.l 0)⟩, ⟨some (5, true), .ld true 5 (.l 0)⟩, ⟨some (6, true), .mov (.r 0)⟩, ⟨some (7, true), .mov (.r 8)⟩, ⟨some (8, true), .ixa 5 (.l 1) (.l 0)⟩, ⟨some (9, true), .ld true 5 (.l 0)⟩, ⟨some (10, true), .hc (.l 9) [(.l 4), (.l 0)]⟩, ⟨some (11, true), .bin .lss (.l 0) (.v (.c (.d (.int .i64 0))))⟩, ⟨some (12, true), .un .not (.l 0)⟩, ⟨none, .pick (.l 13) (.l 0) (.v (.c (.d (.bool false))))⟩] [(22, 0)] []) ( .cond (.r 22) ( .seq (.reg false [⟨none, .mov (.r 0)⟩, ⟨none, .mov (.r 1)⟩, ⟨none, .mov (.r 2)⟩, ⟨none, .mov (.r 8)⟩, ⟨none, .mov (.r 4)⟩, ⟨none, .hc (.v (.c (.d (.fn 131 [] [])))) [(.l 4), (.l 3), (.l 2), (.l 1), (.l 0)]⟩, ⟨none, .mov (.l 0)⟩] [(10, 0)] []) ( .seq (.reg false [⟨none, .mov (.r 10)⟩, ⟨none, .mov (.l 0)⟩] [(1, 0)] []) ( .exit 1))) ( .skip))) ( .seq (.reg false [⟨none, .mov (.r 0)⟩, ⟨none, .mov (.r 1)⟩, ⟨none, .mov (.r 2)⟩, ⟨none, .mov (.r 8)⟩, ⟨none, .mov (.r 4)⟩, ⟨none, .hc (.v (.c (.d (.fn 132 [] [])))) [(.l 4), (.l 3), (.l 2), (.l 1), (.l 0)]⟩, ⟨none, .mov (.l 0)⟩, ⟨none, .ext (.l 0) 0⟩, ⟨none, .ext (.l 1) 1⟩, ⟨none, .mov (.l 1)⟩, ⟨none, .mov (.l 1)⟩] [(11, 1), (12, 0)] []) ( .seq (.reg false [⟨none, .mov (.r 12)⟩, ⟨none, .mov (.l 0)⟩] [(6, 0)] []) ( .seq (.reg false [⟨none, .mov (.r 11)⟩, ⟨none, .mov (.r 1)⟩, ⟨none, .bin .sub (.l 1) (.l 0)⟩, ⟨none, .mov (.r 2)⟩, ⟨none, .mov (.r 11)⟩, ⟨none, .bin .sub (.l 1) (.l 0)⟩, ⟨none, .mov (.l 3)⟩, ⟨none, .mov (.l 1)⟩] [(13, 1), (14, 0)] []) ( .seq (.reg false [⟨none, .mov (.r 7)⟩, ⟨none, .bin .quo (.l 0) (.v (.c (.d (.int .i64 8))))⟩, ⟨none, .mov (.l 0)⟩] [(15, 0)] []) ( .seq (.reg false [⟨none, .mov (.r 13)⟩, ⟨none, .mov (.r 14)⟩, ⟨none, .bin .lss (.l 1) (.l 0)⟩] [(23, 0)] []) ( .cond (.r 23) ( .seq (.reg false [⟨none, .mov (.r 13)⟩, ⟨none, .mov (.r 15)⟩, ⟨none, .bin .geq (.l 1) (.l 0)⟩, ⟨none, .mov (.l 0)⟩] [(5, 0)] []) ( .seq (.reg false [⟨none, .mov (.r 0)⟩, ⟨none, .mov (.r 1)⟩, ⟨none, .mov (.r 11)⟩, ⟨none, .mov (.r 3)⟩, ⟨none, .mov (.r 4)⟩, ⟨none, .hc (.v (.c (.d (.fn 104 [] [])))) [(.l 4), (.l 3), (.l 2), (.l 1), (.l 0)]⟩] [] []) ( .reg false [⟨none, .mov (.r 11)⟩, ⟨none, .bin .add (.l 0) (.v (.c (.d (.int .i64 1))))⟩, ⟨none, .mov (.l 0)⟩] [(1, 0)] []))) ( .seq (.reg false [⟨none, .mov (.r 14)⟩, ⟨none, .mov (.r 15)⟩, ⟨none, .bin .geq (.l 1) (.l 0)⟩, ⟨none, .mov (.l 0)⟩] [(5, 0)] []) ( .seq (.reg false [⟨none, .mov (.r 0)⟩, ⟨none, .mov (.r 11)⟩, ⟨none, .bin .add (.l 0) (.v (.c (.d (.int .i64 1))))⟩, ⟨none, .mov (.r 2)⟩, ⟨none, .mov (.r 3)⟩, ⟨none, .mov (.r 4)⟩, ⟨none, .hc (.v (.c (.d (.fn 104 [] [])))) [(.l 5), (.l 3), (.l 2), (.l 1), (.l 0)]⟩] [] []) ( .reg false [⟨none, .mov (.r 11)⟩, ⟨none, .mov (.l 0)⟩] [(2, 0)] [])))))))))))))))))
def fn104' : Fn := ⟨5, 24, [0, 1, 2, 3, 4, 10, 11, 12, 13, 14, 15, 16, 17, 18, 19, 20, 25, 32, 39, 56, 75, 80, 97, 125], [], .seq (.reg false [⟨none, .mov (.v (.c (.d (.bool true))))⟩] [(5, 0)] []) ( .seq (.reg false [⟨none, .mov (.v (.c (.d (.bool true))))⟩] [(6, 0)] []) ( .block 0 ( .loop (some [0, 1, 2, 3, 4, 5, 6]) fn104L0)))⟩
def fn104 : Fn := fn104'
def fn105 : Fn := ⟨1, 2, [0, 2], [.r 1], .seq (.reg false [⟨none, .mov (.v (.c (.d (.int .i64 0))))⟩] [(1, 0)] []) ( .seq (.cond (.v (.c (.d (.bool false)))) ( .seq (.reg false [⟨none, .mov (.r 0)⟩, ⟨none, .cvi .u32 (.l 0)⟩, ⟨none, .vc 133 [(.l 0)]⟩, ⟨none, .mov (.l 0)⟩] [(1, 0)] []) ( .ret)) ( .skip)) ( .seq (.reg false [⟨none, .mov (.r 0)⟩, ⟨none, .vc 134 [(.l 0)]⟩, ⟨none, .mov (.l 0)⟩] [(1, 0)] []) ( .ret)))⟩
def fn106' : Fn := ⟨1, 2, [0, 2], [.r 1], .seq (.reg false [⟨none, .mov (.v (.c (.d (.bool false))))⟩] [(1, 0)] []) ( .seq (.reg false [⟨none, .mov (.r 0)⟩, ⟨none, .mov (.r 0)⟩, ⟨none, .bin .neq (.l 1) (.l 0)⟩, ⟨none, .mov (.l 0)⟩] [(1, 0)] []) ( .ret))⟩
def fn106 : Fn := fn106'
def fn125L0 : I := .seq (.seq (.reg true [⟨none, .mov (.r 5)⟩, ⟨none, .mov (.r 1)⟩, ⟨none, .bin .gtr (.l 1) (.l 0)⟩, ⟨none, .mov (.l 0)⟩, ⟨some (0, true), .mov (.r 3)⟩, ⟨some (1, true), .mov (.r 0)⟩, ⟨some (2, true), .mov (.r 5)⟩, ⟨some (3, true), .ixa 5 (.l 1) (.l 0)⟩, ⟨some (4, true), .ld true 5 (.l 0)⟩, ⟨some (5, true), .mov (.r 0)⟩, ⟨some (6, true), .mov (.r 5)⟩, ⟨some (7, true), .bin .sub (.l 0) (.v (.c (.d (.int .i64 1))))⟩, ⟨some (8, true), .ixa 5 (.l 2) (.l 0)⟩, ⟨some (9, true), .ld true 5 (.l 0)⟩, ⟨some (10, true), .hc (.l 9) [(.l 5), (.l 0)]⟩, ⟨some (11, true), .bin .lss (.l 0) (.v (.c (.d (.int .i64 0))))⟩, ⟨none, .pick (.l 12) (.l 0) (.v (.c (.d (.bool false))))⟩] [(7, 0)] []) ( .cond (.r 7) ( .skip) ( .exit 2))) ( .seq (.block 3 ( .reg true [⟨none, .mov (.r 0)⟩, ⟨none, .mov (.r 5)⟩, ⟨none, .mov (.r 0)⟩, ⟨none, .mov (.r 5)⟩, ⟨none, .bin .sub (.l 0) (.v (.c (.d (.int .i64 1))))⟩, ⟨none, .mov (.r 0)⟩, ⟨none, .mov (.r 5)⟩, ⟨none, .bin .sub (.l 0) (.v (.c (.d (.int .i64 1))))⟩, ⟨none, .ixa 5 (.l 2) (.l 0)⟩, ⟨none, .ld true 5 (.l 0)⟩, ⟨none, .mov (.r 0)⟩, ⟨none, .mov (.r 5)⟩, ⟨none, .ixa 5 (.l 1) (.l 0)⟩, ⟨none, .ld true 5 (.l 0)⟩, ⟨none, .ixa 5 (.l 13) (.l 12)⟩, ⟨none, .st 5 (.l 0) (.l 5)⟩, ⟨none, .ixa 5 (.l 13) (.l 11)⟩, ⟨none, .st 5 (.l 0) (.l 3)⟩] [] [])) ( .reg false [⟨none, .mov (.r 5)⟩, ⟨none, .bin .sub (.l 0) (.v (.c (.d (.int .i64 1))))⟩, ⟨none, .mov (.l 0)⟩] [(5, 0)] []))
def fn125L1 : I := .seq (.seq (.reg false [⟨none, .mov (.r 4)⟩, ⟨none, .mov (.r 2)⟩, ⟨none, .bin .lss (.l 1) (.l 0)⟩] [(6, 0)] []) ( .cond (.r 6) ( .skip) ( .exit 0))) ( .seq (.block 1 ( .seq (.reg false [⟨none, .mov (.r 4)⟩, ⟨none, .mov (.l 0)⟩] [(5, 0)] []) ( .block 2 ( .loop (some [0, 1, 2, 3, 4, 5]) fn125L0)))) ( .reg false [⟨none, .mov (.r 4)⟩, ⟨none, .bin .add (.l 0) (.v (.c (.d (.int .i64 1))))⟩, ⟨none, .mov (.l 0)⟩] [(4, 0)] []))
def fn125' : Fn := ⟨4, 8, [0, 1, 2, 3, 8, 9, 14, 34], [], .seq (.reg false [⟨none, .mov (.r 1)⟩, ⟨none, .bin .add (.l 0) (.v (.c (.d (.int .i64 1))))⟩, ⟨none, .mov (.l 0)⟩] [(4, 0)] []) ( .block 0 ( .loop (some [0, 1, 2, 3, 4]) fn125L1))⟩
def fn125 : Fn := fn125'
def fn133 : Fn := ⟨1, 4, [0, 2, 4, 8], [.r 1], .seq (.reg false [⟨none, .mov (.v (.c (.d (.int .i64 0))))⟩] [(1, 0)] []) ( .seq (.seq (.reg false [⟨none, .mov (.r 0)⟩, ⟨none, .bin .geq (.l 0) (.v (.c (.d (.int .u32 65536))))⟩] [(2, 0)] []) ( .cond (.r 2) ( .seq (.reg false [⟨none, .mov (.r 0)⟩, ⟨none, .bin .shr (.l 0) (.v (.c (.d (.int .u64 16))))⟩, ⟨none, .mov (.l 0)⟩] [(0, 0)] []) ( .reg false [⟨none, .mov (.v (.c (.d (.int .i64 16))))⟩] [(1, 0)] [])) ( .skip))) ( .seq (.seq (.reg false [⟨none, .mov (.r 0)⟩, ⟨none, .bin .geq (.l 0) (.v (.c (.d (.int .u32 256))))⟩] [(3, 0)] []) ( .cond (.r 3) ( .seq (.reg false [⟨none, .mov (.r 0)⟩, ⟨none, .bin .shr (.l 0) (.v (.c (.d (.int .u64 8))))⟩, ⟨none, .mov (.l 0)⟩] [(0, 0)] []) ( .reg false [⟨none, .mov (.r 1)⟩, ⟨none, .bin .add (.l 0) (.v (.c (.d (.int .i64 8))))⟩, ⟨none, .mov (.l 0)⟩] [(1, 0)] [])) ( .skip))) ( .seq (.reg false [⟨none, .mov (.r 1)⟩, ⟨none, .mov (.r 0)⟩, ⟨none, .cvi .u8 (.l 0)⟩, ⟨none, .ixs (.v (.c (.d (.str [0, 1, 2, 2, 3, 3, 3, 3, 4, 4, 4, 4, 4, 4, 4, 4, 5, 5, 5, 5, 5, 5, 5, 5, 5, 5, 5, 5, 5, 5, 5, 5, 6, 6, 6, 6, 6, 6, 6, 6, 6, 6, 6, 6, 6, 6, 6, 6, 6, 6, 6, 6, 6, 6, 6, 6, 6, 6, 6, 6, 6, 6, 6, 6, 7, 7, 7, 7, 7, 7, 7, 7, 7, 7, 7, 7, 7, 7, 7, 7, 7, 7, 7, 7, 7, 7, 7, 7, 7, 7, 7, 7, 7, 7, 7, 7, 7, 7, 7, 7, 7, 7, 7, 7, 7, 7, 7, 7, 7, 7, 7, 7, 7, 7, 7, 7, 7, 7, 7, 7, 7, 7, 7, 7, 7, 7, 7, 7, 8, 8, 8, 8, 8, 8, 8, 8, 8, 8, 8, 8, 8, 8, 8, 8, 8, 8, 8, 8, 8, 8, 8, 8, 8, 8, 8, 8, 8, 8, 8, 8, 8, 8, 8, 8, 8, 8, 8, 8, 8, 8, 8, 8, 8, 8, 8, 8, 8, 8, 8, 8, 8, 8, 8, 8, 8, 8, 8, 8, 8, 8, 8, 8, 8, 8, 8, 8, 8, 8, 8, 8, 8, 8, 8, 8, 8, 8, 8, 8, 8, 8, 8, 8, 8, 8, 8, 8, 8, 8, 8, 8, 8, 8, 8, 8, 8, 8, 8, 8, 8, 8, 8, 8, 8, 8, 8, 8, 8, 8, 8, 8, 8, 8, 8, 8, 8, 8, 8, 8, 8, 8, 8, 8, 8, 8, 8, 8])))) (.l 0)⟩, ⟨none, .cvi .i64 (.l 0)⟩, ⟨none, .bin .add (.l 4) (.l 0)⟩, ⟨none, .mov (.l 0)⟩] [(1, 0)] []) ( .ret))))⟩
def fn134 : Fn := ⟨1, 5, [0, 2, 4, 8, 14], [.r 1], .seq (.reg false [⟨none, .mov (.v (.c (.d (.int .i64 0))))⟩] [(1, 0)] []) ( .seq (.seq (.reg false [⟨none, .mov (.r 0)⟩, ⟨none, .bin .geq (.l 0) (.v (.c (.d (.int .u64 4294967296))))⟩] [(2, 0)] []) ( .cond (.r 2) ( .seq (.reg false [⟨none, .mov (.r 0)⟩, ⟨none, .bin .shr (.l 0) (.v (.c (.d (.int .u64 32))))⟩, ⟨none, .mov (.l 0)⟩] [(0, 0)] []) ( .reg false [⟨none, .mov (.v (.c (.d (.int .i64 32))))⟩] [(1, 0)] [])) ( .skip))) ( .seq (.seq (.reg false [⟨none, .mov (.r 0)⟩, ⟨none, .bin .geq (.l 0) (.v (.c (.d (.int .u64 65536))))⟩] [(3, 0)] []) ( .cond (.r 3) ( .seq (.reg false [⟨none, .mov (.r 0)⟩, ⟨none, .bin .shr (.l 0) (.v (.c (.d (.int .u64 16))))⟩, ⟨none, .mov (.l 0)⟩] [(0, 0)] []) ( .reg false [⟨none, .mov (.r 1)⟩, ⟨none, .bin .add (.l 0) (.v (.c (.d (.int .i64 16))))⟩, ⟨none, .mov (.l 0)⟩] [(1, 0)] [])) ( .skip))) ( .seq (.seq (.reg false [⟨none, .mov (.r 0)⟩, ⟨none, .bin .geq (.l 0) (.v (.c (.d (.int .u64 256))))⟩] [(4, 0)] []) ( .cond (.r 4) ( .seq (.reg false [⟨none, .mov (.r 0)⟩, ⟨none, .bin .shr (.l 0) (.v (.c (.d (.int .u64 8))))⟩, ⟨none, .mov (.l 0)⟩] [(0, 0)] []) ( .reg false [⟨none, .mov (.r 1)⟩, ⟨none, .bin .add (.l 0) (.v (.c (.d (.int .i64 8))))⟩, ⟨none, .mov (.l 0)⟩] [(1, 0)] [])) ( .skip))) ( .seq (.reg false [⟨none, .mov (.r 1)⟩, ⟨none, .mov (.r 0)⟩, ⟨none, .cvi .u8 (.l 0)⟩, ⟨none, .ixs (.v (.c (.d (.str [0, 1, 2, 2, 3, 3, 3, 3, 4, 4, 4, 4, 4, 4, 4, 4, 5, 5, 5, 5, 5, 5, 5, 5, 5, 5, 5, 5, 5, 5, 5, 5, 6, 6, 6, 6, 6, 6, 6, 6, 6, 6, 6, 6, 6, 6, 6, 6, 6, 6, 6, 6, 6, 6, 6, 6, 6, 6, 6, 6, 6, 6, 6, 6, 7, 7, 7, 7, 7, 7, 7, 7, 7, 7, 7, 7, 7, 7, 7, 7, 7, 7, 7, 7, 7, 7, 7, 7, 7, 7, 7, 7, 7, 7, 7, 7, 7, 7, 7, 7, 7, 7, 7, 7, 7, 7, 7, 7, 7, 7, 7, 7, 7, 7, 7, 7, 7, 7, 7, 7, 7, 7, 7, 7, 7, 7, 7, 7, 8, 8, 8, 8, 8, 8, 8, 8, 8, 8, 8, 8, 8, 8, 8, 8, 8, 8, 8, 8, 8, 8, 8, 8, 8, 8, 8, 8, 8, 8, 8, 8, 8, 8, 8, 8, 8, 8, 8, 8, 8, 8, 8, 8, 8, 8, 8, 8, 8, 8, 8, 8, 8, 8, 8, 8, 8, 8, 8, 8, 8, 8, 8, 8, 8, 8, 8, 8, 8, 8, 8, 8, 8, 8, 8, 8, 8, 8, 8, 8, 8, 8, 8, 8, 8, 8, 8, 8, 8, 8, 8, 8, 8, 8, 8, 8, 8, 8, 8, 8, 8, 8, 8, 8, 8, 8, 8, 8, 8, 8, 8, 8, 8, 8, 8, 8, 8, 8, 8, 8, 8, 8, 8, 8, 8, 8, 8, 8])))) (.l 0)⟩, ⟨none, .cvi .i64 (.l 0)⟩, ⟨none, .bin .add (.l 4) (.l 0)⟩, ⟨none, .mov (.l 0)⟩] [(1, 0)] []) ( .ret)))))⟩
def fnsR : FuncId → Option Fn
  | 47 => some fn47
  | 80 => some fn80
  | 81 => some fn81
  | 82 => some fn82
  | 104 => some fn104
  | 105 => some fn105
  | 106 => some fn106
  | 125 => some fn125
  | 133 => some fn133
  | 134 => some fn134
  | _ => none
end Mini
end Go.Proofs.YtgjlofpfbhioaaaGreatDoor
namespace Go.Proofs.YtgjlofpfbhioaaaGreatDoor
namespace Mini
theorem ok47 : okFn Tryz.prog fn47 Tryz.f47 = true := by kernel_rfl
theorem ok80 : okFn Tryz.prog fn80 Tryz.f80 = true := by kernel_rfl
theorem ok81 : okFn Tryz.prog fn81 Tryz.f81 = true := by kernel_rfl
theorem ok82 : okFn Tryz.prog fn82 Tryz.f82 = true := by kernel_rfl
theorem ok104 : okFn Tryz.prog fn104 Tryz.f104 = true := by kernel_rfl
theorem ok105 : okFn Tryz.prog fn105 Tryz.f105 = true := by kernel_rfl
theorem ok106 : okFn Tryz.prog fn106 Tryz.f106 = true := by kernel_rfl
theorem ok125 : okFn Tryz.prog fn125 Tryz.f125 = true := by kernel_rfl
theorem ok133 : okFn Tryz.prog fn133 Tryz.f133 = true := by kernel_rfl
theorem ok134 : okFn Tryz.prog fn134 Tryz.f134 = true := by kernel_rfl
end Mini
end Go.Proofs.YtgjlofpfbhioaaaGreatDoor
