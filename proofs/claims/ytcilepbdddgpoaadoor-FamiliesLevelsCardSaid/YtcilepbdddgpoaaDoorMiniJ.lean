/-
  strings.Join, as a primitive of the abstract machine: its contract lies in the library; here it is laid at this program.
-/
import Derived.Shelf.Strings.OnBuilder
import Derived.Test.YtcilepbdddgpoaaDoorProg
import Derived.Test.YtcilepbdddgpoaaDoorMiniE20
namespace Go.Proofs.YtcilepbdddgpoaaDoor
namespace Mini
open Go Go.Shelf Go.Proofs

def renJ : Ren where
  f x := match x with
    | 156 => 46
    | 165 => 52
    | 166 => 53
    | 169 => 54
    | 240 => 64
    | 241 => 65
    | 276 => 73
    | 277 => 74
    | n => n
  t x := match x with
    | 31 => 90
    | 72 => 102
    | 76 => 106
    | 70 => 100
    | 37 => 68
    | 75 => 105
    | 127 => 120
    | 164 => 130
    | 80 => 108
    | n => n
  g x := x

theorem laysJ : Lays.n156 Tryd.prog renJ where
  mixed := by kernel_rfl
  f156 := by kernel_rfl
  f165 := by kernel_rfl
  f166 := by kernel_rfl
  f169 := by kernel_rfl
  f240 := by kernel_rfl
  f241 := by kernel_rfl
  f276 := by kernel_rfl
  f277 := by kernel_rfl
  t0 := by kernel_rfl
  a0 := fun _ => by kernel_rfl
  z0 := fun _ => by kernel_rfl
  v0 := fun _ => by kernel_rfl
  t3 := by kernel_rfl
  a3 := fun _ => by kernel_rfl
  z3 := fun _ => by kernel_rfl
  v3 := fun _ => by kernel_rfl
  t4 := by kernel_rfl
  a4 := fun _ => by kernel_rfl
  z4 := fun _ => by kernel_rfl
  v4 := fun _ => by kernel_rfl
  t9 := by kernel_rfl
  a9 := fun _ => by kernel_rfl
  z9 := fun _ => by kernel_rfl
  v9 := fun _ => by kernel_rfl
  t20 := by kernel_rfl
  a20 := fun _ => by kernel_rfl
  z20 := fun _ => by kernel_rfl
  v20 := fun _ => by kernel_rfl
  t31 := by kernel_rfl
  a31 := fun _ => by kernel_rfl
  z31 := fun _ => by kernel_rfl
  v31 := fun _ => by kernel_rfl
  t37 := by kernel_rfl
  a37 := fun _ => by kernel_rfl
  z37 := fun _ => by kernel_rfl
  v37 := fun _ => by kernel_rfl
  t70 := by kernel_rfl
  a70 := fun _ => by kernel_rfl
  z70 := fun _ => by kernel_rfl
  v70 := fun _ => by kernel_rfl
  t72 := by kernel_rfl
  a72 := fun _ => by kernel_rfl
  z72 := fun _ => by kernel_rfl
  v72 := fun _ => by kernel_rfl
  t75 := by kernel_rfl
  a75 := fun _ => by kernel_rfl
  z75 := fun _ => by kernel_rfl
  v75 := fun _ => by kernel_rfl
  t76 := by kernel_rfl
  a76 := fun _ => by kernel_rfl
  z76 := fun _ => by kernel_rfl
  v76 := fun _ => by kernel_rfl
  t127 := by kernel_rfl
  a127 := fun _ => by kernel_rfl
  z127 := fun _ => by kernel_rfl
  v127 := fun _ => by kernel_rfl
  t164 := by kernel_rfl
  a164 := fun _ => by kernel_rfl
  z164 := fun _ => by kernel_rfl
  v164 := fun _ => by kernel_rfl

theorem extraJ : Builder.Extra Tryd.prog renJ where
  sizeBuilder := by kernel_rfl
  liesBuilder := by kernel_rfl
  t5 := by kernel_rfl
  a5 := fun _ => by kernel_rfl
  z5 := fun _ => by kernel_rfl
  v5 := fun _ => by kernel_rfl
  infoByte := by kernel_rfl
  cellsByte := by kernel_rfl
  sizeByte := by kernel_rfl
  neB5 := by decide

/-- The strings in a row of cells. -/
def strsOf : List D → Option (List (List Nat))
  | [] => some []
  | .str s :: cs => (strsOf cs).map (s :: ·)
  | _ :: _ => none

def joinN (sep : List Nat) : List (List Nat) → List Nat
  | [] => []
  | [x] => x
  | x :: y :: xs => x ++ sep ++ joinN sep (y :: xs)

/-- What strings.Join answers: a row of at least one string. -/
def joinV : List V → Option V
  | [.c (.d (.sl cs n)), .c (.d (.str sep))] => match strsOf cs with
    | some ss => if ss.length = n ∧ 0 < n ∧ n ≤ 1073741824 ∧ (joinN sep ss).length ≤ 1073741824 then some (.c (.d (.str (joinN sep ss)))) else none
    | none => none
  | _ => none

theorem strsOf_rel {I : Imm} : ∀ {cs : List D} {ss : List (List Nat)} {vs : List Value}, strsOf cs = some ss → RelDs I cs vs → ∃ bs : List ByteArray, bs.length = ss.length ∧ bs.map (fun b => b.data.toList.map UInt8.toNat) = ss ∧ ∀ (j : Nat) x, bs[j]? = some x → vs[j]? = some (.string x)
  | [], ss, vs, h, _ => by
    simp only [strsOf, Option.some.injEq] at h
    subst h
    exact ⟨[], rfl, rfl, by simp⟩
  | c :: cs, ss, [], h, hr => by simp only [RelDs] at hr
  | c :: cs, ss, v :: vs, h, hr => by
    simp only [RelDs] at hr
    cases c <;> simp only [strsOf] at h <;> try (cases h; done)
    rename_i s
    simp only [Option.map_eq_some_iff] at h
    obtain ⟨ss', h1, rfl⟩ := h
    obtain ⟨bs, h2, h3, h4⟩ := strsOf_rel h1 hr.2
    obtain ⟨r1, _⟩ := hr
    simp only [RelD] at r1
    obtain ⟨b, rfl, rfl⟩ := r1
    refine ⟨b :: bs, by simp [h2], by simp [h3], fun j x hx => ?_⟩
    cases j with
    | zero => simp only [List.getElem?_cons_zero, Option.some.injEq] at hx ⊢; rw [hx]
    | succ j => simp only [List.getElem?_cons_succ] at hx ⊢; exact h4 j x hx

theorem join_joinN (sep : ByteArray) : ∀ bs : List ByteArray, (Lib.join (bs.map (·.data.toList)) sep.data.toList).map UInt8.toNat = joinN (sep.data.toList.map UInt8.toNat) (bs.map fun b => b.data.toList.map UInt8.toNat)
  | [] => rfl
  | [b] => by rw [List.map_cons, List.map_nil, Lib.join_one]; rfl
  | b :: c :: bs => by
    have ih := join_joinN sep (c :: bs)
    simp only [List.map_cons, Lib.join_cons, joinN] at ih ⊢
    rw [← ih]
    simp [Lib.joinTail]

theorem joinV_ok {G : Nat → Option (List D)} {vs : List V} {r : V} (h : joinV vs = some r) : Enters Tryd.prog 46 ∧ ValCall Tryd.prog G 46 vs r := by
  have hent : Enters Tryd.prog 46 := ⟨Tryd.f46, by kernel_rfl, by kernel_rfl, by kernel_rfl⟩
  refine ⟨hent, ?_⟩
  unfold joinV at h
  split at h <;> try (cases h; done)
  rename_i cs n sep
  split at h <;> try (cases h; done)
  rename_i ss hss
  split at h <;> try (cases h; done)
  rename_i hc
  obtain ⟨c1, c2, c3, c4⟩ := hc
  simp only [Option.some.injEq] at h
  subst h
  intro I w us _ hI hrel hlen
  match us, hlen, hrel with
  | [u1, u2], _, hrel =>
    simp only [RelVs, relV_d, RelD] at hrel
    obtain ⟨⟨a, cap, rfl, hle, hrow⟩, ⟨sb, rfl, rfl⟩, _⟩ := hrel
    rcases hrow with rfl | ⟨B, o, arr, T, fr, rfl, hB, hr⟩
    · simp only [strsOf, Option.some.injEq] at hss
      subst hss
      simp at c1
      omega
    · obtain ⟨bs, h1, h2, h3⟩ := strsOf_rel hss hr
      have hb := hI B _ hB
      have hn : bs.length = n := by omega
      have hjoin := join_joinN sb bs
      rw [h2] at hjoin
      have hcells : ∀ (j : Nat) x, bs[j]? = some x → w.cell? ⟨B, o + j, none⟩ = some (.string x) := by
        intro j x hx
        have := h3 j x hx
        rw [List.getElem?_drop, Array.getElem?_toList] at this
        simp only [World.cell?, hb, Option.isSome_none, Bool.false_eq_true, if_false]
        exact this
      have hcall := Any.strings_Join laysJ extraJ B o cap bs sb w hcells (Array.getElem?_eq_some_iff.1 hb).1 (by omega) (by omega) (by
        have := congrArg List.length hjoin
        rw [List.length_map] at this
        omega)
      have e : renJ.f 156 = 46 := rfl
      rw [e, hn] at hcall
      refine hcall.mono fun e' w' hh => ?_
      obtain ⟨rfl, hbel⟩ := hh
      refine ⟨_, I, rfl, ?_, fun _ _ h => h, fun B o hB => ?_, fun _ _ h => .inl h, hbel.os, hbel.tape, hbel.output, hbel.size, hbel.block⟩
      · rw [relV_str]
        exact ⟨_, rfl, hjoin⟩
      · rw [hbel.block B (Array.getElem?_eq_some_iff.1 (hI B o hB)).1]
        exact hI B o hB
end Mini
end Go.Proofs.YtcilepbdddgpoaaDoor
