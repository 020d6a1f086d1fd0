/-
  Functions of the library as primitives of the abstract machine: what each answers; that the code answers so.
-/
import Derived.Test.YtgjlofpfbhioaaaGreatDoorMiniL2
import Derived.Test.YtgjlofpfbhioaaaGreatDoorMiniE20
namespace Go.Proofs.YtgjlofpfbhioaaaGreatDoor
namespace Mini
open Go Go.Shelf Go.Proofs Go.RowKit

abbrev Str (s : List Nat) : V := .c (.d (.str s))
abbrev I64 (n : Int) : V := .c (.d (.int .i64 n))
abbrev U64 (n : Int) : V := .c (.d (.int .u64 n))
abbrev Bl (b : Bool) : V := .c (.d (.bool b))

/-- What lies behind a call that leaves old blocks as they were. -/
theorem out_below {I : Imm} {w w' : World} {v : V} {u : Value} (hI : ∀ B o, I B = some o → w.heap[B]? = some o) (hb : Below w.heap.size w w') (hr : RelV (mm I) v u) :
    ∃ (v' : Value) (J : Imm), Ending.returned u = .returned v' ∧ RelV (mm J) v v' ∧ (∀ B o, I B = some o → J B = some o) ∧ (∀ B o, J B = some o → w'.heap[B]? = some o) ∧ (∀ B o, J B = some o → I B = some o ∨ w.heap.size ≤ B) ∧
      w'.os = w.os ∧ w'.tape = w.tape ∧ w'.output = w.output ∧ w.heap.size ≤ w'.heap.size ∧ ∀ B : Nat, B < w.heap.size → w'.heap[B]? = w.heap[B]? :=
  ⟨u, I, rfl, hr, fun _ _ h => h, fun B o hB => by rw [hb.block B (Array.getElem?_eq_some_iff.1 (hI B o hB)).1]; exact hI B o hB, fun _ _ h => .inl h, hb.os, hb.tape, hb.output, hb.size, hb.block⟩
theorem below_drewN (w : World) (n : Nat) : Below w.heap.size w (w.drewN n) := ⟨rfl, rfl, rfl, Nat.le_refl _, fun _ _ => rfl⟩
theorem below_grow (w : World) (n : Nat) (os : Array Obj) : Below w.heap.size w (Go.Sort.grow (w.drewN n) os) := by
  refine ⟨rfl, rfl, rfl, by simp [Go.Sort.grow, World.drewN], fun k hk => ?_⟩
  show (w.heap ++ os)[k]? = _
  rw [Array.getElem?_append_left hk]

theorem relStr {M : MM} {s : List Nat} {u : Value} (h : RelV M (Str s) u) : ∃ b : ByteArray, u = .string b ∧ bytesB b = s := by
  rw [relV_d] at h
  simp only [RelD] at h
  exact h
theorem strRel {M : MM} {b : ByteArray} {s : List Nat} (h : bytesB b = s) : RelV M (Str s) (.string b) := by
  rw [relV_d]; simp only [RelD]; exact ⟨b, rfl, h⟩
theorem relInt {M : MM} {k : IntKind} {n : Int} {u : Value} (h : RelV M (.c (.d (.int k n))) u) : u = .int k n := by
  rw [relV_d] at h; simpa only [RelD] using h
theorem intRel {M : MM} {k : IntKind} {n : Int} : RelV M (.c (.d (.int k n))) (.int k n) := by
  rw [relV_d]; simp only [RelD]
theorem one_byte {b : ByteArray} {c : Nat} (h : bytesB b = [c]) : ∃ x : UInt8, b = ⟨#[x]⟩ ∧ x.toNat = c := by
  obtain ⟨arr⟩ := b
  obtain ⟨l⟩ := arr
  simp only [bytesB] at h
  match l, h with
  | [x], h => exact ⟨x, rfl, by simpa using h⟩
theorem size_bytes {b : ByteArray} {s : List Nat} (h : bytesB b = s) : b.size = s.length := by
  rw [← h]; simp [bytesB]
theorem mk_bytes (l : List UInt8) : bytesB ⟨l.toArray⟩ = List.map UInt8.toNat l := by simp [bytesB]

/-! ### strings.Index, strings.IndexByte, strings.LastIndexByte -/
def indexV : List V → Option V
  | [.c (.d (.str s)), .c (.d (.str [c]))] => some (I64 (oInt (idxN c s)))
  | _ => none
theorem indexV_ok {G : Nat → Option (List D)} {vs : List V} {r : V} (h : indexV vs = some r) : Enters Tryz.prog 147 ∧ ValCall Tryz.prog G 147 vs r := by
  refine ⟨⟨Tryz.f147, by kernel_rfl, by kernel_rfl, by kernel_rfl⟩, ?_⟩
  unfold indexV at h
  split at h <;> try (cases h; done)
  rename_i s c
  simp only [Option.some.injEq] at h
  subst h
  intro I w us _ hI hrel hlen
  match us, hlen, hrel with
  | [u1, u2], _, hrel =>
    simp only [RelVs, and_true] at hrel
    obtain ⟨r1, r2⟩ := hrel
    obtain ⟨b, rfl, rfl⟩ := relStr r1
    obtain ⟨b2, rfl, hb2⟩ := relStr r2
    obtain ⟨x, rfl, rfl⟩ := one_byte hb2
    have hcall := Any.strings_Index_one lays_n143 b x w
    refine hcall.mono fun e w' hh => ?_
    obtain ⟨rfl, rfl⟩ := hh
    refine out_below hI (Below.refl _ _) ?_
    rw [idxN_eq]
    exact intRel

def ixbV : List V → Option V
  | [.c (.d (.str s)), .c (.d (.int .u8 c))] => if 0 ≤ c ∧ c < 256 then some (I64 (oInt (idxN c.toNat s))) else none
  | _ => none
theorem ixbV_ok {G : Nat → Option (List D)} {vs : List V} {r : V} (h : ixbV vs = some r) : Enters Tryz.prog 121 ∧ ValCall Tryz.prog G 121 vs r := by
  refine ⟨⟨Tryz.f121, by kernel_rfl, by kernel_rfl, by kernel_rfl⟩, ?_⟩
  unfold ixbV at h
  split at h <;> try (cases h; done)
  rename_i s c
  split at h <;> try (cases h; done)
  rename_i hc
  simp only [Option.some.injEq] at h
  subst h
  intro I w us _ hI hrel hlen
  match us, hlen, hrel with
  | [u1, u2], _, hrel =>
    simp only [RelVs, and_true] at hrel
    obtain ⟨r1, r2⟩ := hrel
    obtain ⟨b, rfl, rfl⟩ := relStr r1
    obtain rfl := relInt r2
    have hcall := Any.strings_IndexByte lays_n137 b c w
    refine hcall.mono fun e w' hh => ?_
    obtain ⟨rfl, rfl⟩ := hh
    refine out_below hI (Below.refl _ _) ?_
    rw [idxN_eq]
    have e : (c.toNat.toUInt8).toNat = c.toNat := by
      show c.toNat % 256 = c.toNat
      exact Nat.mod_eq_of_lt (by omega)
    rw [e]
    exact intRel

def lixV : List V → Option V
  | [.c (.d (.str s)), .c (.d (.int .u8 c))] => if 0 ≤ c ∧ s.length < 4611686018427387904 then some (I64 (oInt (lidxN c.toNat s))) else none
  | _ => none
theorem lixV_ok {G : Nat → Option (List D)} {vs : List V} {r : V} (h : lixV vs = some r) : Enters Tryz.prog 100 ∧ ValCall Tryz.prog G 100 vs r := by
  refine ⟨⟨Tryz.f100, by kernel_rfl, by kernel_rfl, by kernel_rfl⟩, ?_⟩
  unfold lixV at h
  split at h <;> try (cases h; done)
  rename_i s c
  split at h <;> try (cases h; done)
  rename_i hc
  simp only [Option.some.injEq] at h
  subst h
  intro I w us _ hI hrel hlen
  match us, hlen, hrel with
  | [u1, u2], _, hrel =>
    simp only [RelVs, and_true] at hrel
    obtain ⟨r1, r2⟩ := hrel
    obtain ⟨b, rfl, rfl⟩ := relStr r1
    obtain rfl := relInt r2
    have hsz := size_bytes (b := b) rfl
    have hcall := Any.strings_LastIndexByte lays_n149 b c (by omega) w
    refine hcall.mono fun e w' hh => ?_
    obtain ⟨rfl, rfl⟩ := hh
    refine out_below hI (Below.refl _ _) ?_
    obtain ⟨n, rfl⟩ := Int.eq_ofNat_of_zero_le hc.1
    have e := lastIdx_eq b n b.size (Nat.le_refl _)
    rw [List.take_of_length_le (by omega)] at e
    show RelV _ _ (.int .i64 (Lib.lastIdx b n b.size))
    rw [e]
    exact intRel

/-! ### strings.Cut, strings.Split: the variable MaxLen, whatever it holds -/
def cutV : List V → Option V
  | [.c (.d (.str s)), .c (.d (.str [c]))] => if s.length < 4294967281 then some (match cutN c s with
      | some (a, b) => .tup [Str a, Str b, Bl true]
      | none => .tup [Str s, Str [], Bl false]) else none
  | _ => none
theorem maxLen_at {G : Nat → Option (List D)} {I : Imm} {w : World} {m : Int} (hG : GlobOk G I) (hm : G 1 = some [.int .i64 m]) (hI : ∀ B o, I B = some o → w.heap[B]? = some o) : w.cell? ⟨(renNm.g 1), 0, none⟩ = some (.int .i64 m) := by
  obtain ⟨arr, T, fr, h1, h2, h3⟩ := hG.at hm
  have hb := hI _ _ h1
  have e : renNm.g 1 = 1 := rfl
  rw [e]
  have h3' := RelDs.iff.1 h3 0 _ rfl
  obtain ⟨v, hv, hr⟩ := h3'
  simp only [RelD] at hr
  subst hr
  simp only [World.cell?, hb, Option.isSome_none, Bool.false_eq_true, if_false]
  rw [← Array.getElem?_toList]
  exact hv
theorem cutV_ok {G : Nat → Option (List D)} {m : Int} (hm : G 1 = some [.int .i64 m]) {vs : List V} {r : V} (h : cutV vs = some r) : Enters Tryz.prog 65 ∧ ValCall Tryz.prog G 65 vs r := by
  refine ⟨⟨Tryz.f65, by kernel_rfl, by kernel_rfl, by kernel_rfl⟩, ?_⟩
  unfold cutV at h
  split at h <;> try (cases h; done)
  rename_i s c
  split at h <;> try (cases h; done)
  rename_i hc
  simp only [Option.some.injEq] at h
  subst h
  intro I w us hG hI hrel hlen
  match us, hlen, hrel with
  | [u1, u2], _, hrel =>
    simp only [RelVs, and_true] at hrel
    obtain ⟨r1, r2⟩ := hrel
    obtain ⟨b, rfl, rfl⟩ := relStr r1
    obtain ⟨b2, rfl, hb2⟩ := relStr r2
    obtain ⟨x, rfl, rfl⟩ := one_byte hb2
    have hsz := size_bytes (b := b) rfl
    have hcall := Any.strings_Cut lays_n145 b ⟨#[x]⟩ m w (by omega) (maxLen_at hG hm hI)
    refine hcall.mono fun e w' hh => ?_
    obtain ⟨rfl, n, rfl⟩ := hh
    refine out_below hI (below_drewN _ _) ?_
    rw [cutN_idx]
    have hx : (⟨#[x]⟩ : ByteArray).data.toList = [x] := rfl
    rw [hx]
    unfold Lib.cut
    rw [index_one, idxN_eq]
    show RelV _ _ _
    simp only [bytesB]
    cases hi : idxN x.toNat (List.map UInt8.toNat b.data.toList) with
    | none =>
      have : ¬ (0 : Int) ≤ oInt none := by simp [oInt]
      rw [if_neg this]
      simp only [Option.map_none]
      rw [relV_tup]
      refine ⟨_, rfl, rfl, ?_⟩
      simp only [RelVs, and_true]
      exact ⟨strRel (mk_bytes _), strRel rfl, by rw [relV_bool]⟩
    | some k =>
      have : (0 : Int) ≤ oInt (some k) := Int.natCast_nonneg k
      rw [if_pos this]
      simp only [Option.map_some]
      rw [relV_tup]
      refine ⟨_, rfl, rfl, ?_⟩
      simp only [RelVs, and_true]
      have hk : (oInt (some k)).toNat = k := rfl
      refine ⟨strRel ?_, strRel ?_, by rw [relV_bool]⟩
      · rw [mk_bytes, hk, List.map_take]
      · rw [mk_bytes, hk, List.map_drop]; rfl

/-- A row of strings, laid. -/
theorem strs_rel {I : Imm} : ∀ (bs : List ByteArray), RelDs I (bs.map fun b => .str (bytesB b)) (bs.map Value.string)
  | [] => RelDs.nil _ _
  | b :: bs => by
    simp only [List.map_cons, RelDs, RelD]
    exact ⟨⟨b, rfl, rfl⟩, strs_rel bs⟩
def splitV : List V → Option V
  | [.c (.d (.str s)), .c (.d (.str [c]))] => if s.length < 4294967281 then some (.c (.d (.sl ((splitN c s).map .str) (splitN c s).length))) else none
  | _ => none
theorem splitV_ok {G : Nat → Option (List D)} {m : Int} (hm : G 1 = some [.int .i64 m]) {vs : List V} {r : V} (h : splitV vs = some r) : Enters Tryz.prog 92 ∧ ValCall Tryz.prog G 92 vs r := by
  refine ⟨⟨Tryz.f92, by kernel_rfl, by kernel_rfl, by kernel_rfl⟩, ?_⟩
  unfold splitV at h
  split at h <;> try (cases h; done)
  rename_i s c
  split at h <;> try (cases h; done)
  rename_i hc
  simp only [Option.some.injEq] at h
  subst h
  intro I w us hG hI hrel hlen
  match us, hlen, hrel with
  | [u1, u2], _, hrel =>
    simp only [RelVs, and_true] at hrel
    obtain ⟨r1, r2⟩ := hrel
    obtain ⟨b, rfl, rfl⟩ := relStr r1
    obtain ⟨b2, rfl, hb2⟩ := relStr r2
    obtain ⟨x, rfl, rfl⟩ := one_byte hb2
    have hsz := size_bytes (b := b) rfl
    have hcall := Any.strings_Split lays_n146 (by kernel_rfl) b ⟨#[x]⟩ m w (by omega) (maxLen_at hG hm hI) (Nat.le_refl 1)
    refine hcall.mono fun e w' hh => ?_
    obtain ⟨rfl, rfl⟩ := hh
    have hcount : Lib.countB b ⟨#[x]⟩ + 1 = (splitN x.toNat (bytesB b)).length := countFrom_eq x (b.data.toList.length + 1) b.data.toList (Nat.lt_succ_self _)
    have hparts : (Lib.splitB ⟨#[x]⟩ 0 (Lib.countB b ⟨#[x]⟩) b).map (fun b => D.str (bytesB b)) = (splitN x.toNat (bytesB b)).map .str := by
      have h1 := Lib.splitB_data ⟨#[x]⟩ 0 (Lib.countB b ⟨#[x]⟩) b
      have h2 := splitK_eq x (Lib.countB b ⟨#[x]⟩) b.data.toList (by rw [hcount]; exact Nat.le_refl _)
      have hx : (⟨#[x]⟩ : ByteArray).data.toList = [x] := rfl
      rw [hx] at h1
      rw [← h1, List.map_map] at h2
      show _ = List.map D.str (splitN x.toNat (List.map UInt8.toNat b.data.toList))
      rw [← h2, List.map_map]
      rfl
    refine ⟨_, fun B => if B = w.heap.size then some (.cells ((Lib.splitB ⟨#[x]⟩ 0 (Lib.countB b ⟨#[x]⟩) b).map Value.string).toArray (renNm.t 9) (0, 0)) else I B, rfl, ?_, fun B o hB => ?_, fun B o hB => ?_, fun B o hB => ?_, rfl, rfl, rfl, ?_, fun B hB => ?_⟩
    · rw [relV_d]
      simp only [RelD]
      rw [← hcount]
      refine ⟨_, _, rfl, Nat.le_refl _, .inr ⟨_, _, _, _, _, rfl, if_pos rfl, ?_⟩⟩
      rw [← hparts]
      simp only [List.drop_zero]
      exact strs_rel _
    · have hlt := (Array.getElem?_eq_some_iff.1 (hI B o hB)).1
      show (if B = w.heap.size then _ else I B) = _
      rw [if_neg (Nat.ne_of_lt hlt)]
      exact hB
    · show (w.heap.push _)[B]? = _
      simp only at hB
      split at hB
      · rename_i e; subst e; cases hB; simp
      · have := hI B o hB
        rw [Array.getElem?_push, if_neg (Nat.ne_of_lt (Array.getElem?_eq_some_iff.1 this).1)]
        exact this
    · simp only at hB
      split at hB
      · rename_i e; exact .inr (by omega)
      · exact .inl hB
    · show _ ≤ (w.heap.push _).size; simp
    · show (w.heap.push _)[B]? = _
      rw [Array.getElem?_push, if_neg (Nat.ne_of_lt hB)]

/-! ### strings.Trim at the digits -/
def digs : List Nat := [48, 49, 50, 51, 52, 53, 54, 55, 56, 57]
def trimV : List V → Option V
  | [.c (.d (.str s)), .c (.d (.str cs))] => if cs = digs ∧ s.length < 4294967281 then some (Str (trimN cs s)) else none
  | _ => none
theorem trimV_ok {G : Nat → Option (List D)} {vs : List V} {r : V} (h : trimV vs = some r) : Enters Tryz.prog 151 ∧ ValCall Tryz.prog G 151 vs r := by
  refine ⟨⟨Tryz.f151, by kernel_rfl, by kernel_rfl, by kernel_rfl⟩, ?_⟩
  unfold trimV at h
  split at h <;> try (cases h; done)
  rename_i s cs
  split at h <;> try (cases h; done)
  rename_i hc
  simp only [Option.some.injEq] at h
  subst h
  intro I w us _ hI hrel hlen
  match us, hlen, hrel with
  | [u1, u2], _, hrel =>
    simp only [RelVs, and_true] at hrel
    obtain ⟨r1, r2⟩ := hrel
    obtain ⟨b, rfl, rfl⟩ := relStr r1
    obtain ⟨b2, rfl, rfl⟩ := relStr r2
    have hsz := size_bytes (b := b) rfl
    have hsz2 := size_bytes (b := b2) rfl
    have hascii : ∀ (j : Nat) x, b2.data.toList[j]? = some x → x.toNat < 128 := by
      intro j x hx
      have hm : x.toNat ∈ bytesB b2 := List.mem_map.2 ⟨x, List.mem_of_getElem? hx, rfl⟩
      rw [hc.1] at hm
      simp only [digs, List.mem_cons, List.mem_nil_iff, or_false] at hm
      omega
    have hl2 : (bytesB b2).length = 10 := by rw [hc.1]; rfl
    have hcall := Any.strings_Trim_ascii lays_n160 (fun _ => by kernel_rfl) (by kernel_rfl) b b2 w (by omega) (by omega) hascii
    refine hcall.mono fun e w' hh => ?_
    obtain ⟨rfl, hbel⟩ := hh
    refine out_below hI hbel (strRel ?_)
    rw [mk_bytes, trimN_eq]

/-! ### strconv.ParseUint at 10, 32; strconv.Itoa -/
def parseV : List V → Option V
  | [.c (.d (.str s)), .c (.d (.int .i64 10)), .c (.d (.int .i64 32))] =>
    if s.length < 281474976710656 then
      if s.all isDig && !s.isEmpty then some (if numN 0 s ≤ 4294967295 then .tup [U64 (numN 0 s), .c (.d .nili)] else .tup [U64 4294967295, .c (.d .ifc)]) else none
    else none
  | _ => none
theorem parseV_ok {G : Nat → Option (List D)} (hr : G 6 = some [.ifc]) {vs : List V} {r : V} (h : parseV vs = some r) : Enters Tryz.prog 119 ∧ ValCall Tryz.prog G 119 vs r := by
  refine ⟨⟨Tryz.f119, by kernel_rfl, by kernel_rfl, by kernel_rfl⟩, ?_⟩
  unfold parseV at h
  split at h <;> try (cases h; done)
  rename_i s
  split at h <;> try (cases h; done)
  rename_i hlen1
  split at h <;> try (cases h; done)
  rename_i hc
  simp only [Bool.and_eq_true, Bool.not_eq_true', List.isEmpty_eq_false_iff] at hc
  simp only [Option.some.injEq] at h
  subst h
  intro I w us hG hI hrel hlen
  match us, hlen, hrel with
  | [u1, u2, u3], _, hrel =>
    simp only [RelVs, and_true] at hrel
    obtain ⟨r1, r2, r3⟩ := hrel
    obtain ⟨b, rfl, rfl⟩ := relStr r1
    obtain rfl := relInt r2
    obtain rfl := relInt r3
    have hsz := size_bytes (b := b) rfl
    have hne : b.data.toList ≠ [] := fun e => hc.2 (by simp [bytesB, e])
    have hp : Lib.parseUintB 32 b.data.toList = if numN 0 (bytesB b) ≤ 4294967295 then .ok (numN 0 (bytesB b)) else .range := by
      unfold Lib.parseUintB
      rw [if_neg hne]
      exact parseUintM_eq 4294967295 (by decide) b.data.toList 0 (by decide) hc.1
    by_cases hle : numN 0 (bytesB b) ≤ 4294967295
    · rw [if_pos hle] at hp ⊢
      have hcall := Any.strconv_ParseUint_10_at32_ok laysPu_n14 b (by omega) _ hp w
      refine hcall.mono fun e w' hh => ?_
      obtain ⟨rfl, hw⟩ := hh
      refine out_below hI ?_ ?_
      · rcases hw with rfl | rfl
        · exact Below.refl _ _
        · refine ⟨rfl, rfl, rfl, ?_, fun k hk => ?_⟩
          · rw [Lib.bytesWorld_size]; omega
          · exact Lib.bytesWorld_at_old w _ b k hk
      · rw [relV_tup]
        refine ⟨_, rfl, rfl, ?_⟩
        simp only [RelVs, and_true]
        exact ⟨intRel, by rw [relV_d]; simp only [RelD]⟩
    · rw [if_neg hle] at hp ⊢
      obtain ⟨arr, T, fr, h1, h2, h3⟩ := hG.at hr
      have hb := hI _ _ h1
      obtain ⟨v, hv, hrv⟩ := RelDs.iff.1 h3 0 _ rfl
      simp only [RelD] at hrv
      obtain ⟨te, pe, rfl⟩ := hrv
      have hcell : w.cell? ⟨(renMp.g 1), 0, none⟩ = some (.iface te pe) := by
        have e : renMp.g 1 = 6 := rfl
        rw [e]
        simp only [World.cell?, hb, Option.isSome_none, Bool.false_eq_true, if_false]
        rw [← Array.getElem?_toList]
        exact hv
      have hcall := Any.strconv_ParseUint_10_at32_range laysPu_n14 b (by omega) hp (.iface te pe) w hcell (.inr ⟨te, pe, rfl⟩)
      refine hcall.mono fun e w' hh => ?_
      obtain ⟨N, rfl, _, _, hbel⟩ := hh
      refine out_below hI hbel ?_
      rw [relV_tup]
      refine ⟨_, rfl, rfl, ?_⟩
      simp only [RelVs, and_true]
      exact ⟨intRel, by rw [relV_d]; simp only [RelD]; exact ⟨_, _, rfl⟩⟩
end Mini
end Go.Proofs.YtgjlofpfbhioaaaGreatDoor
