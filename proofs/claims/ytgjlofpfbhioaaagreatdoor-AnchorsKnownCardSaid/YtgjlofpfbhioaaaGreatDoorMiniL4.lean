/-
  Functions of the library as primitives, on: strings.Join, tables of numbers, decimal texts.
-/
import Derived.Test.YtgjlofpfbhioaaaGreatDoorMiniL3
namespace Go.Proofs.YtgjlofpfbhioaaaGreatDoor
namespace Mini
open Go Go.Shelf Go.Proofs Go.RowKit

/-! ### strings.Join -/
/-- The strings in a row of cells. -/
def strsOf : List D → Option (List (List Nat))
  | [] => some []
  | .str s :: cs => (strsOf cs).map (s :: ·)
  | _ :: _ => none

def joinN (sep : List Nat) : List (List Nat) → List Nat
  | [] => []
  | [x] => x
  | x :: y :: xs => x ++ sep ++ joinN sep (y :: xs)

/-- What strings.Join answers: a row of at least one string. -/
def joinV : List V → Option V
  | [.c (.d (.sl cs n)), .c (.d (.str sep))] => match strsOf cs with
    | some ss => if ss.length = n ∧ 0 < n ∧ n ≤ 1073741824 ∧ (joinN sep ss).length ≤ 1073741824 then some (.c (.d (.str (joinN sep ss)))) else none
    | none => none
  | _ => none

theorem strsOf_rel {I : Imm} : ∀ {cs : List D} {ss : List (List Nat)} {vs : List Value}, strsOf cs = some ss → RelDs I cs vs → ∃ bs : List ByteArray, bs.length = ss.length ∧ bs.map bytesB = ss ∧ ∀ (j : Nat) x, bs[j]? = some x → vs[j]? = some (.string x)
  | [], ss, vs, h, _ => by
    simp only [strsOf, Option.some.injEq] at h
    subst h
    exact ⟨[], rfl, rfl, by simp⟩
  | c :: cs, ss, [], h, hr => by simp only [RelDs] at hr
  | c :: cs, ss, v :: vs, h, hr => by
    simp only [RelDs] at hr
    cases c <;> simp only [strsOf] at h <;> try (cases h; done)
    rename_i s
    simp only [Option.map_eq_some_iff] at h
    obtain ⟨ss', h1, rfl⟩ := h
    obtain ⟨bs, h2, h3, h4⟩ := strsOf_rel h1 hr.2
    obtain ⟨r1, _⟩ := hr
    simp only [RelD] at r1
    obtain ⟨b, rfl, rfl⟩ := r1
    refine ⟨b :: bs, by simp [h2], by simp [h3], fun j x hx => ?_⟩
    cases j with
    | zero => simp only [List.getElem?_cons_zero, Option.some.injEq] at hx ⊢; rw [hx]
    | succ j => simp only [List.getElem?_cons_succ] at hx ⊢; exact h4 j x hx

theorem join_joinN (sep : ByteArray) : ∀ bs : List ByteArray, (Lib.join (bs.map (·.data.toList)) sep.data.toList).map UInt8.toNat = joinN (bytesB sep) (bs.map bytesB)
  | [] => rfl
  | [b] => by rw [List.map_cons, List.map_nil, Lib.join_one]; rfl
  | b :: c :: bs => by
    have ih := join_joinN sep (c :: bs)
    simp only [List.map_cons, Lib.join_cons, joinN] at ih ⊢
    rw [← ih]
    simp [Lib.joinTail]

theorem joinV_ok {G : Nat → Option (List D)} {vs : List V} {r : V} (h : joinV vs = some r) : Enters Tryz.prog 90 ∧ ValCall Tryz.prog G 90 vs r := by
  refine ⟨⟨Tryz.f90, by kernel_rfl, by kernel_rfl, by kernel_rfl⟩, ?_⟩
  unfold joinV at h
  split at h <;> try (cases h; done)
  rename_i cs n sep
  split at h <;> try (cases h; done)
  rename_i ss hss
  split at h <;> try (cases h; done)
  rename_i hc
  obtain ⟨c1, c2, c3, c4⟩ := hc
  simp only [Option.some.injEq] at h
  subst h
  intro I w us _ hI hrel hlen
  match us, hlen, hrel with
  | [u1, u2], _, hrel =>
    simp only [RelVs, relV_d, RelD] at hrel
    obtain ⟨⟨a, cap, rfl, hle, hrow⟩, ⟨sb, rfl, rfl⟩, _⟩ := hrel
    rcases hrow with rfl | ⟨B, o, arr, T, fr, rfl, hB, hr⟩
    · simp only [strsOf, Option.some.injEq] at hss
      subst hss
      simp at c1
      omega
    · obtain ⟨bs, h1, h2, h3⟩ := strsOf_rel hss hr
      have hb := hI B _ hB
      have hn : bs.length = n := by omega
      have hjoin := join_joinN sb bs
      rw [h2] at hjoin
      have hcells : ∀ (j : Nat) x, bs[j]? = some x → w.cell? ⟨B, o + j, none⟩ = some (.string x) := by
        intro j x hx
        have := h3 j x hx
        rw [List.getElem?_drop, Array.getElem?_toList] at this
        simp only [World.cell?, hb, Option.isSome_none, Bool.false_eq_true, if_false]
        exact this
      have hcall := Any.strings_Join lays_n156 extraNm B o cap bs sb w hcells (Array.getElem?_eq_some_iff.1 hb).1 (by omega) (by omega) (by
        have := congrArg List.length hjoin
        rw [List.length_map] at this
        have c5 : (joinN (bytesB sb) ss).length ≤ 1073741824 := c4
        omega)
      rw [hn] at hcall
      refine hcall.mono fun e' w' hh => ?_
      obtain ⟨rfl, hbel⟩ := hh
      refine out_below hI hbel (strRel ?_)
      rw [mk_bytes]
      exact hjoin

/-! ### The table of powers -/
def pow10D : List D := Lib.pow10Tab.map (D.int .u64)
theorem row_ints {I : Imm} {k : IntKind} : ∀ {zs : List Int} {vs : List Value}, RelDs I (zs.map (D.int k)) vs → vs.length = zs.length → vs = zs.map (Value.int k)
  | [], [], _, _ => rfl
  | [], _ :: _, _, h => by simp at h
  | _ :: _, [], _, h => by simp at h
  | z :: zs, v :: vs, h, hl => by
    simp only [List.map_cons, RelDs, RelD] at h
    obtain ⟨rfl, h⟩ := h
    rw [List.map_cons, row_ints h (by simpa using hl)]
theorem tab_at {G : Nat → Option (List D)} {I : Imm} {w : World} (hG : GlobOk G I) (h2 : G 2 = some pow10D) (hI : ∀ B o, I B = some o → w.heap[B]? = some o) : Lib.TabIs Tryz.prog w "internal/strconv.uint64pow10" .u64 Lib.pow10Tab := by
  obtain ⟨arr, T, fr, k1, k2, k3⟩ := hG.at h2
  have hb := hI _ _ k1
  have hm : Tryz.prog.globalNamed "internal/strconv.uint64pow10" = some 2 := laysM_n284.m17
  have he := row_ints (zs := Lib.pow10Tab) k3 (by rw [Array.length_toList, k2]; simp [pow10D])
  unfold Lib.TabIs World.var?
  rw [hm]
  simp only [Option.bind_some, hb]
  congr 1
  apply Array.ext'
  rw [he]

theorem nDigits_eq : ∀ (f n : Nat), n < 10 ^ (f + 1) → Lib.nDigits n = (decF f n).length
  | 0, n, h => by rw [Lib.nDigits_small (by simpa using h)]; rfl
  | f + 1, n, h => by
    simp only [decF]
    split
    · rename_i hn; rw [Lib.nDigits_small hn]; rfl
    · rename_i hn
      rw [Lib.nDigits_big hn, nDigits_eq f (n / 10) (by rw [Nat.pow_succ] at h; omega)]
      simp

def ndV : List V → Option V
  | [.c (.d (.int .u64 u))] => if 1 ≤ u ∧ u < 18446744073709551616 then some (I64 (Int.ofNat (decN u.toNat).length)) else none
  | _ => none
theorem ndV_ok {G : Nat → Option (List D)} (h2 : G 2 = some pow10D) {vs : List V} {r : V} (h : ndV vs = some r) : Enters Tryz.prog 137 ∧ ValCall Tryz.prog G 137 vs r := by
  refine ⟨⟨Tryz.f137, by kernel_rfl, by kernel_rfl, by kernel_rfl⟩, ?_⟩
  unfold ndV at h
  split at h <;> try (cases h; done)
  rename_i u
  split at h <;> try (cases h; done)
  rename_i hc
  simp only [Option.some.injEq] at h
  subst h
  intro I w us hG hI hrel hlen
  match us, hlen, hrel with
  | [u1], _, hrel =>
    simp only [RelVs, and_true] at hrel
    obtain rfl := relInt hrel
    obtain ⟨n, rfl⟩ := Int.eq_ofNat_of_zero_le (show 0 ≤ u by omega)
    have hcall := Any.internal_strconv_numDigits laysM_n284 n (by omega) (by omega) w (tab_at hG h2 hI)
    refine hcall.mono fun e w' hh => ?_
    obtain ⟨rfl, rfl⟩ := hh
    refine out_below hI (Below.refl _ _) ?_
    rw [nDigits_eq 20 n (by have : (10 : Nat) ^ (20 + 1) = 1000000000000000000000 := by decide
                            omega)]
    exact intRel

/-- strconv.Itoa's text. -/
def itoaN (n : Int) : List Nat := if n < 0 then 45 :: decN n.natAbs else decN n.toNat
def itoaV : List V → Option V
  | [.c (.d (.int .i64 n))] => if -9223372036854775808 ≤ n ∧ n ≤ 9223372036854775807 then some (Str (itoaN n)) else none
  | _ => none
theorem itoaV_ok {G : Nat → Option (List D)} (h2 : G 2 = some pow10D) {vs : List V} {r : V} (h : itoaV vs = some r) : Enters Tryz.prog 73 ∧ ValCall Tryz.prog G 73 vs r := by
  refine ⟨⟨Tryz.f73, by kernel_rfl, by kernel_rfl, by kernel_rfl⟩, ?_⟩
  unfold itoaV at h
  split at h <;> try (cases h; done)
  rename_i n
  split at h <;> try (cases h; done)
  rename_i hc
  simp only [Option.some.injEq] at h
  subst h
  intro I w us hG hI hrel hlen
  match us, hlen, hrel with
  | [u1], _, hrel =>
    simp only [RelVs, and_true] at hrel
    obtain rfl := relInt hrel
    have hcall := Any.strconv_Itoa laysM_n171 n hc.1 hc.2 w (tab_at hG h2 hI)
    refine hcall.mono fun e w' hh => ?_
    obtain ⟨rfl, k, os, rfl⟩ := hh
    refine out_below hI (below_grow _ _ _) (strRel ?_)
    rw [mk_bytes]
    have hp : (10 : Nat) ^ (20 + 1) = 1000000000000000000000 := by decide
    unfold Lib.itoa itoaN decN
    split
    · rw [List.map_cons, decF_eq 20 _ (by omega)]; rfl
    · rw [decF_eq 20 _ (by omega)]
end Mini
end Go.Proofs.YtgjlofpfbhioaaaGreatDoor
