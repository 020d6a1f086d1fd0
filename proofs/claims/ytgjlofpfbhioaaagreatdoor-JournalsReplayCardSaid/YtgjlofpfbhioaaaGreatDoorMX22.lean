/-
  JournalsReplay: texts of the proof, part 23.
-/
import Derived.Test.YtgjlofpfbhioaaaGreatDoorMX21
import Derived.Test.YtgjlofpfbhioaaaGreatDoorCards
import Derived.Test.YtgjlofpfbhioaaaGreatDoorTie
import Derived.WalkKit
import Derived.ProofKit
import Derived.OpenShut
import Derived.Deep.DeepHandedRow
import Derived.Lib.LaidTab
namespace Go.Proofs.YtgjlofpfbhioaaaGreatDoor
namespace Mini
open Go Go.ChangeShapes Go.WideShapes Go.ChangeAt Go.RowKit
theorem own : ownKnob Tryz.prog.godebug = none := by kernel_rfl
def val1 : DataW Unit → Value
  | .lit (.int k n) => .int k n
  | .lit (.string s) => .string ⟨s.toArray⟩
  | _ => .nilIface
def row1 : DataW Unit → List Value
  | .agg ds => ds.map val1
  | d => [val1 d]
def row2 : DataW Unit → List Value
  | .agg ds => ds.flatMap row1
  | _ => []
def putVar (h : Array Obj) (g : Nat) (cs : List Value) : Array Obj := h.modify g fun
      | .cells _ t frozen => .cells cs.toArray t frozen
      | o => o
def errText (d : DataW Unit) : Value :=
  match d with
  | .iface _ (.ptr (.agg [x])) => val1 x
  | _ => .nilIface
noncomputable def laidWorld (os : Os) : World :=
  let w := World.holding Tryz.prog os ⟨#[.cells #[errText Rows.laid_strconv_ErrSyntax] 245, .cells #[errText Rows.laid_strconv_ErrRange] 245], #[], []⟩
  let h := putVar w.heap 0 (row1 Rows.laid_vidimus_anchors_words)
  let h := putVar h 2 (row1 Rows.laid_internal_strconv_uint64pow10)
  let h := putVar h 3 (row1 Rows.laid_unicode_utf8_first)
  let h := putVar h 4 (row2 Rows.laid_unicode_utf8_acceptRanges)
  let h := putVar h 5 [.iface 243 (.pointer (some ⟨Tryz.prog.low, 0, none⟩))]
  let h := putVar h 6 [.iface 243 (.pointer (some ⟨Tryz.prog.low + 1, 0, none⟩))]
  let h := putVar h 7 (row1 Rows.laid_math_bits_deBruijn32tab)
  let h := putVar h 8 (row1 Rows.laid_math_bits_deBruijn64tab)
  { w with heap := h }
theorem laid_met (os : Os) (args : Array Value) : laidMet Tryz.prog Rows.anchorsInputsRow.laid ((laidWorld os).forCall (fun _ _ => 0) ⟨#[], args, []⟩).memory :=
  laidMet_of_run' 8 (by kernel_rfl) (by kernel_rfl)
end Mini
end Go.Proofs.YtgjlofpfbhioaaaGreatDoor
namespace Go.Proofs.YtgjlofpfbhioaaaGreatDoor
namespace Mini
open Go Go.ChangeShapes Go.WideShapes Go.ChangeAt Go.RowKit Go.Deep
section
variable {H : Type} {enc : TypeId × Value → H} {W : World} {base : Nat} {sp : Nat → Bool} {held : Bool}
theorem flatMap_oneJ (l : List Nat) : l.flatMap (fun b : Nat => [D.int .u8 (b : Int)]) = l.map fun b : Nat => D.int .u8 (b : Int) := by
  induction l with
  | nil => rfl
  | cons a l ih => rw [List.flatMap_cons, List.map_cons, ih]; rfl
theorem open_bytesJ {n : Nat} {cs : List Value} {y : DataW H × List MemPlace} (h : DataW.trod enc Tryz.prog W base sp held n 62 cs = some y) : ∃ (v : Value) (w : D) (bs : List Nat), cs = [v] ∧ isBy w bs ∧ (∀ b ∈ bs, b < 256) ∧ RelD (imW W) w v := by
  have key : ∀ n cs' y, DataW.trod enc Tryz.prog W base sp held n 5 cs' = some y → ∃ b : Nat, RelDs (imW W) [D.int .u8 (b : Int)] cs' ∧ ([D.int .u8 (b : Int)] : List D).length = 1 ∧ b < 256 := by
    intro n cs' y h
    obtain ⟨z, rfl, _, w0⟩ := DataW.trod_int Tryz.underlying5 h
    have hb := bounds_u8 w0
    refine ⟨z.toNat, ?_, rfl, by omega⟩
    simp only [RelDs, RelD]
    exact ⟨by rw [Int.toNat_of_nonneg hb.1], trivial⟩
  rcases open_sl (sz := 1) (Q := fun b : Nat => [D.int .u8 (b : Int)]) (R := fun b => b < 256) Tryz.underlying62 (by kernel_rfl) (by omega) h key with h0 | ⟨v, l, h1, h2, h3⟩
  · exact ⟨_, .nils, [], h0, .inl ⟨rfl, rfl⟩, (fun _ h => by cases h), by simp only [RelD]⟩
  · refine ⟨v, .sl (l.map fun b : Nat => D.int .u8 (b : Int)) l.length, l, h1, .inr rfl, fun b hb => (h2 b hb).2, ?_⟩
    rw [flatMap_oneJ] at h3
    exact h3
theorem open_j {n : Nat} {cs : List Value} {y : DataW H × List MemPlace} (h : DataW.trod enc Tryz.prog W base sp held n 84 cs = some y) : ∃ x : Ej, RelDs (imW W) (Ej.ds x) cs ∧ (Ej.ds x).length = 5 ∧ wfJ x := by
  have c4 : Tryz.prog.cellsOf 4 = 1 := by kernel_rfl
  have c5 : Tryz.prog.cellsOf 5 = 1 := by kernel_rfl
  have c62 : Tryz.prog.cellsOf 62 = 1 := by kernel_rfl
  have c84 : Tryz.prog.cellsOf 84 = 5 := by kernel_rfl
  obtain ⟨xs, k, rfl, rfl, hl, hn, hi⟩ := DataW.trod_struct Tryz.underlying84 h
  rw [c84] at hl
  have hn : xs.length = 5 := hn
  have h0 : DataW.trod enc Tryz.prog W base sp held k 5 ((cs.drop 0).take (Tryz.prog.cellsOf 5)) = xs[0]? := hi 0 _ rfl
  have h1 : DataW.trod enc Tryz.prog W base sp held k 4 ((cs.drop 1).take (Tryz.prog.cellsOf 4)) = xs[1]? := hi 1 _ rfl
  have h2 : DataW.trod enc Tryz.prog W base sp held k 5 ((cs.drop 2).take (Tryz.prog.cellsOf 5)) = xs[2]? := hi 2 _ rfl
  have h3 : DataW.trod enc Tryz.prog W base sp held k 5 ((cs.drop 3).take (Tryz.prog.cellsOf 5)) = xs[3]? := hi 3 _ rfl
  have h4 : DataW.trod enc Tryz.prog W base sp held k 62 ((cs.drop 4).take (Tryz.prog.cellsOf 62)) = xs[4]? := hi 4 _ rfl
  simp only [c4, c5, c62] at h0 h1 h2 h3 h4
  rw [List.getElem?_eq_getElem (by omega)] at h0 h1 h2 h3 h4
  obtain ⟨z0, e0, _, w0⟩ := DataW.trod_int Tryz.underlying5 h0
  obtain ⟨b1, e1, _⟩ := DataW.trod_bool Tryz.underlying4 h1
  obtain ⟨z2, e2, _, w2⟩ := DataW.trod_int Tryz.underlying5 h2
  obtain ⟨z3, e3, _, w3⟩ := DataW.trod_int Tryz.underlying5 h3
  obtain ⟨v, w, bs, e4, hb, hbs, hr⟩ := open_bytesJ h4
  have q0 := bounds_u8 w0
  have q2 := bounds_u8 w2
  have q3 := bounds_u8 w3
  obtain ⟨v0, v1, v2, v3, v4, rfl⟩ := list_five hl
  simp at e0 e1 e2 e3 e4
  subst e0 e1 e2 e3 e4
  refine ⟨⟨z0.toNat, b1, z2.toNat, z3.toNat, w, bs⟩, ?_, rfl, hb, hbs, by simp only; omega, by simp only; omega, by simp only; omega⟩
  simp only [Ej.ds, RelDs, RelD]
  exact ⟨by rw [Int.toNat_of_nonneg q0.1], trivial, by rw [Int.toNat_of_nonneg q2.1], by rw [Int.toNat_of_nonneg q3.1], hr, trivial⟩
theorem open_ejs {n : Nat} {v : Value} {y : DataW H × List MemPlace} (h : DataW.trod enc Tryz.prog W base sp held n 64 [v] = some y) : ∃ (w : D) (l : List Ej), isEjs w l ∧ (∀ x ∈ l, wfJ x) ∧ RelD (imW W) w v := by
  rcases open_sl (sz := 5) (Q := Ej.ds) (R := wfJ) Tryz.underlying64 (by kernel_rfl) (by omega) h (fun _ _ _ h => open_j h) with h0 | ⟨v', l, h1, h2, h3⟩
  · cases h0
    exact ⟨.nils, [], .inl ⟨rfl, rfl⟩, (fun _ h => by cases h), by simp only [RelD]⟩
  · cases h1
    exact ⟨_, l, .inr rfl, fun a ha => (h2 a ha).2, h3⟩
end
end Mini
end Go.Proofs.YtgjlofpfbhioaaaGreatDoor
