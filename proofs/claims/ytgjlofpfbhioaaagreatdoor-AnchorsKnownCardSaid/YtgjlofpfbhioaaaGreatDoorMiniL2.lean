/-
  Plain words for the library's functions over bytes: places, parts, decimal numbers; how they stand to the library's own.
-/
import Derived.Test.YtgjlofpfbhioaaaGreatDoorMiniL1
namespace Go.Proofs.YtgjlofpfbhioaaaGreatDoor
namespace Mini
open Go Go.Shelf Go.Proofs Go.RowKit

/-- Where a byte stands first. -/
def idxN (c : Nat) : List Nat → Option Nat
  | [] => none
  | x :: xs => if x = c then some 0 else match idxN c xs with
    | some k => some (k + 1)
    | none => none
/-- Where a byte stands last. -/
def lidxN (c : Nat) : List Nat → Option Nat
  | [] => none
  | x :: xs => match lidxN c xs with
    | some k => some (k + 1)
    | none => if x = c then some 0 else none
def oInt : Option Nat → Int
  | some k => Int.ofNat k
  | none => -1
/-- The part before a byte, and the part behind it. -/
def cutN (c : Nat) : List Nat → Option (List Nat × List Nat)
  | [] => none
  | x :: xs => if x = c then some ([], xs) else match cutN c xs with
    | some (a, b) => some (x :: a, b)
    | none => none
/-- The parts between a byte. -/
def splitN (c : Nat) : List Nat → List (List Nat)
  | [] => [[]]
  | x :: xs => if x = c then [] :: splitN c xs else match splitN c xs with
    | [] => [[x]]
    | y :: ys => (x :: y) :: ys
def trimN (cs s : List Nat) : List Nat := ((s.reverse.dropWhile (cs.contains ·)).reverse).dropWhile (cs.contains ·)
def isDig (b : Nat) : Bool := Nat.ble 48 b && Nat.ble b 57
def numN (acc : Nat) (s : List Nat) : Nat := s.foldl (fun a b => 10 * a + (b - 48)) acc
def decF : Nat → Nat → List Nat
  | 0, n => [48 + n % 10]
  | f + 1, n => if n < 10 then [48 + n] else decF f (n / 10) ++ [48 + n % 10]
/-- A number in decimal. -/
def decN (n : Nat) : List Nat := decF 20 n

abbrev bytesB (s : ByteArray) : List Nat := s.data.toList.map UInt8.toNat

theorem oInt_ne (k : Nat) : (oInt (some k) == -1) = false := by
  rw [beq_eq_false_iff_ne]
  intro h
  have h1 : (0 : Int) ≤ oInt (some k) := Int.natCast_nonneg k
  rw [h] at h1
  exact absurd h1 (by decide)

theorem toNat_inj {a b : UInt8} (h : a.toNat = b.toNat) : a = b := UInt8.toNat_inj.1 h

theorem idxN_eq (c : UInt8) : ∀ l : List UInt8, Lib.indexByte l c = oInt (idxN c.toNat (List.map UInt8.toNat l))
  | [] => rfl
  | b :: l => by
    have ih := idxN_eq c l
    simp only [Lib.indexByte, List.map_cons, idxN]
    by_cases h : b = c
    · subst h; simp [oInt]
    · have h' : ¬ b.toNat = c.toNat := fun e => h (toNat_inj e)
      rw [if_neg h', if_neg (by simpa using h), ih]
      cases idxN c.toNat (List.map UInt8.toNat l) with
      | none => simp [oInt]
      | some k =>
        simp only [oInt_ne, Bool.false_eq_true, if_false]
        rfl

theorem index_one (c : UInt8) : ∀ l : List UInt8, Lib.index l [c] = Lib.indexByte l c
  | [] => rfl
  | b :: l => by
    have ih := index_one c l
    simp only [Lib.index, Lib.indexByte, ih]
    by_cases h : b = c
    · subst h; simp
    · have h1 : (c == b) = false := by simp; exact fun e => h e.symm
      have h2 : (b == c) = false := by simp; exact h
      simp [List.isPrefixOf, h1, h2]

theorem idxN_lt {c : Nat} : ∀ {l : List Nat} {k : Nat}, idxN c l = some k → k < l.length
  | [], _, h => by cases h
  | x :: xs, k, h => by
    simp only [idxN] at h
    split at h
    · cases h; simp
    · split at h <;> try (cases h; done)
      rename_i k' hk
      cases h
      have := idxN_lt hk
      simp only [List.length_cons]; omega

theorem cutN_idx (c : Nat) : ∀ l : List Nat, cutN c l = (idxN c l).map fun k => (l.take k, l.drop (k + 1))
  | [] => rfl
  | x :: xs => by
    simp only [cutN, idxN, cutN_idx c xs]
    split
    · simp
    · cases idxN c xs <;> simp

theorem splitN_ne (c : Nat) (l : List Nat) : splitN c l ≠ [] := by
  cases l with
  | nil => simp [splitN]
  | cons x xs =>
    simp only [splitN]
    split
    · simp
    · split <;> simp

/-- The parts, by the first one. -/
theorem splitN_cut (c : Nat) : ∀ l : List Nat, splitN c l = match cutN c l with
    | some (a, b) => a :: splitN c b
    | none => [l]
  | [] => rfl
  | x :: xs => by
    have ih := splitN_cut c xs
    simp only [splitN, cutN]
    split
    · rfl
    · cases h : cutN c xs with
      | none => rw [h] at ih; simp only at ih; rw [ih]
      | some p => obtain ⟨a, b⟩ := p; rw [h] at ih; simp only at ih; rw [ih]

theorem splitN_length (c : Nat) : ∀ l : List Nat, (splitN c l).length ≤ l.length + 1
  | [] => by simp [splitN]
  | x :: xs => by
    have := splitN_length c xs
    simp only [splitN]
    split
    · simp; omega
    · have h0 := splitN_ne c xs
      split
      · rename_i h; exact absurd h h0
      · rename_i y ys h; rw [h] at this; simp at this ⊢; omega

theorem splitK_eq (c : UInt8) : ∀ (k : Nat) (l : List UInt8), (splitN c.toNat (List.map UInt8.toNat l)).length ≤ k + 1 → (Lib.splitK [c] 0 k l).map (List.map UInt8.toNat) = splitN c.toNat (List.map UInt8.toNat l)
  | 0, l, h => by
    rw [splitN_cut] at h ⊢
    cases hc : cutN c.toNat (List.map UInt8.toNat l) with
    | none => simp [Lib.splitK]
    | some p =>
      obtain ⟨a, b⟩ := p
      rw [hc] at h
      have := List.length_pos_iff.2 (splitN_ne c.toNat b)
      simp at h
      exact absurd h (splitN_ne _ _)
  | k + 1, l, h => by
    rw [splitN_cut] at h ⊢
    simp only [Lib.splitK, index_one, idxN_eq]
    rw [cutN_idx] at h ⊢
    cases hi : idxN c.toNat (List.map UInt8.toNat l) with
    | none => simp [oInt]
    | some j =>
      rw [hi] at h
      simp only [oInt_ne, Bool.false_eq_true, if_false]
      simp only [Option.map_some] at h ⊢
      have hj : (oInt (some j)).toNat = j := rfl
      have e : List.map UInt8.toNat (l.drop (j + 1)) = (List.map UInt8.toNat l).drop (j + 1) := by simp
      rw [hj, List.map_cons, Nat.add_zero]
      simp only [List.length_cons, List.length_nil, Nat.zero_add]
      rw [← e]
      rw [splitK_eq c k (l.drop (j + 1)) (by rw [e]; simp at h; exact h)]
      simp

theorem countFrom_eq (c : UInt8) : ∀ (f : Nat) (l : List UInt8), l.length < f → Lib.countFrom [c] f l + 1 = (splitN c.toNat (List.map UInt8.toNat l)).length
  | 0, l, h => by omega
  | f + 1, l, h => by
    rw [splitN_cut, cutN_idx]
    simp only [Lib.countFrom, index_one, idxN_eq]
    cases hi : idxN c.toNat (List.map UInt8.toNat l) with
    | none => simp [oInt]
    | some j =>
      simp only [oInt_ne, Bool.false_eq_true, if_false]
      have hlt := idxN_lt hi
      simp only [List.length_map] at hlt
      have e : List.map UInt8.toNat (l.drop (j + 1)) = (List.map UInt8.toNat l).drop (j + 1) := by simp
      have hj : (oInt (some j)).toNat = j := rfl
      simp only [Option.map_some, List.length_cons, hj, List.length_nil, Nat.zero_add]
      rw [← e, ← countFrom_eq c f (l.drop (j + 1)) (by simp only [List.length_drop]; omega)]
      omega

theorem trimN_eq (l cs : List UInt8) : List.map UInt8.toNat (Lib.trimS l cs) = trimN (List.map UInt8.toNat cs) (List.map UInt8.toNat l) := by
  have key : ∀ l : List UInt8, List.map UInt8.toNat (l.dropWhile (cs.contains ·)) = (List.map UInt8.toNat l).dropWhile ((List.map UInt8.toNat cs).contains ·) := by
    intro l
    induction l with
    | nil => rfl
    | cons b l ih =>
      have hc : (List.map UInt8.toNat cs).contains b.toNat = cs.contains b := by
        rw [Bool.eq_iff_iff, List.contains_iff_mem, List.contains_iff_mem, List.mem_map]
        constructor
        · rintro ⟨a, h1, h2⟩; rw [← toNat_inj h2]; exact h1
        · intro h; exact ⟨b, h, rfl⟩
      simp only [List.dropWhile_cons, List.map_cons, hc]
      split
      · exact ih
      · rfl
  have h2 : List.map UInt8.toNat ((l.reverse.dropWhile (cs.contains ·)).reverse) = (((List.map UInt8.toNat l).reverse).dropWhile ((List.map UInt8.toNat cs).contains ·)).reverse := by
    rw [List.map_reverse, key, List.map_reverse]
  show List.map UInt8.toNat (((l.reverse.dropWhile (cs.contains ·)).reverse).dropWhile (cs.contains ·)) = _
  rw [key, h2]
  rfl

theorem numN_nil (acc : Nat) : numN acc [] = acc := by unfold numN; exact List.foldl_nil
theorem numN_cons (acc b : Nat) (l : List Nat) : numN acc (b :: l) = numN (10 * acc + (b - 48)) l := by unfold numN; exact List.foldl_cons
theorem numN_ge (l : List Nat) : ∀ acc : Nat, acc ≤ numN acc l := by
  induction l with
  | nil => intro acc; rw [numN_nil]; exact Nat.le_refl _
  | cons b l ih =>
    intro acc
    have := ih (10 * acc + (b - 48))
    rw [numN_cons]
    omega

theorem parseUintM_eq (m : Nat) (hm : m < 1844674407370955162) : ∀ (l : List UInt8) (acc : Nat), acc ≤ m → (List.map UInt8.toNat l).all isDig = true → Lib.parseUintM m acc l = if numN acc (List.map UInt8.toNat l) ≤ m then .ok (numN acc (List.map UInt8.toNat l)) else .range
  | [], acc, ha, _ => by simp only [Lib.parseUintM, List.map_nil, numN_nil, ha, if_true]
  | c :: l, acc, ha, h => by
    simp only [List.map_cons, List.all_cons, Bool.and_eq_true] at h
    obtain ⟨h1, h2⟩ := h
    have h1' : 48 ≤ c.toNat ∧ c.toNat ≤ 57 := by
      simp only [isDig, Bool.and_eq_true, Nat.ble_eq] at h1
      exact h1
    simp only [Lib.parseUintM, List.map_cons, numN_cons]
    rw [if_pos h1', if_neg (by omega)]
    have e : acc * 10 + (c.toNat - 48) = 10 * acc + (c.toNat - 48) := by omega
    rw [e]
    have hge := numN_ge (List.map UInt8.toNat l) (10 * acc + (c.toNat - 48))
    by_cases hb : m < 10 * acc + (c.toNat - 48)
    · rw [if_pos hb, if_neg (by omega)]
    · rw [if_neg hb]
      exact parseUintM_eq m hm l _ (by omega) h2

theorem decF_eq : ∀ (f n : Nat), n < 10 ^ (f + 1) → List.map UInt8.toNat (Lib.decDigits n) = decF f n
  | 0, n, h => by
    rw [Lib.decDigits, dif_pos (by simpa using h)]
    have : n < 10 := by simpa using h
    simp only [decF, List.map_cons, List.map_nil, Nat.mod_eq_of_lt this]
    rw [UInt8.toNat_ofNat', Nat.mod_eq_of_lt (by omega)]
  | f + 1, n, h => by
    rw [Lib.decDigits]
    simp only [decF]
    split
    · simp only [List.map_cons, List.map_nil]
      rw [UInt8.toNat_ofNat', Nat.mod_eq_of_lt (by omega)]
    · have hn : n / 10 < 10 ^ (f + 1) := by rw [Nat.pow_succ] at h; omega
      simp only [List.map_append, List.map_cons, List.map_nil]
      rw [decF_eq f (n / 10) hn, UInt8.toNat_ofNat', Nat.mod_eq_of_lt (by omega)]

theorem lidxN_snoc (c : Nat) : ∀ (l : List Nat) (x : Nat), lidxN c (l ++ [x]) = if x = c then some l.length else lidxN c l
  | [], x => by simp [lidxN]
  | y :: l, x => by
    simp only [List.cons_append, lidxN, lidxN_snoc c l x]
    by_cases h : x = c
    · simp [h]
    · simp [h]

theorem lastIdx_eq (s : ByteArray) (c : Nat) : ∀ k, k ≤ s.size → Lib.lastIdx s c k = oInt (lidxN c ((bytesB s).take k))
  | 0, _ => rfl
  | k + 1, hk => by
    have ih := lastIdx_eq s c k (by omega)
    have hlt : k < s.data.size := hk
    have e : (bytesB s).take (k + 1) = (bytesB s).take k ++ [(s.data[k]!).toNat] := by
      rw [List.take_add_one]
      congr 1
      have h1 : s.data[k]? = some s.data[k]! := by rw [Array.getElem?_eq_getElem hlt, getElem!_pos s.data k hlt]
      simp [bytesB, h1]
    rw [e, lidxN_snoc]
    simp only [Lib.lastIdx]
    have hl : ((bytesB s).take k).length = k := by
      have : s.data.toList.length = s.data.size := Array.length_toList
      simp [bytesB]; omega
    rw [hl]
    by_cases h : (s.data[k]!).toNat = c
    · rw [if_pos h]
      simp [h, oInt]
    · rw [if_neg h, ih]
      have : ¬ (((s.data[k]!).toNat : Int) = (c : Int)) := by omega
      simp [this]
end Mini
end Go.Proofs.YtgjlofpfbhioaaaGreatDoor
