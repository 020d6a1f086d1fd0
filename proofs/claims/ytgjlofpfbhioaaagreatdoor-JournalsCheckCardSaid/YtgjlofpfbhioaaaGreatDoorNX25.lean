/-
  JournalsCheck: texts of the proof, part 26.
-/
import Derived.Test.YtgjlofpfbhioaaaGreatDoorNX24
import Derived.Test.YtgjlofpfbhioaaaGreatDoorCards
import Derived.Test.YtgjlofpfbhioaaaGreatDoorTie
import Derived.WalkKit
import Derived.ProofKit
import Derived.OpenShut
import Derived.Deep.DeepHandedRow
import Derived.Lib.LaidTab
namespace Go.Proofs.YtgjlofpfbhioaaaGreatDoor
namespace Mini
open Go Go.ChangeShapes Go.WideShapes Go.ChangeAt Go.RowKit
theorem own : ownKnob Tryz.prog.godebug = none := by kernel_rfl
def val1 : DataW Unit → Value
  | .lit (.int k n) => .int k n
  | .lit (.string s) => .string ⟨s.toArray⟩
  | _ => .nilIface
def row1 : DataW Unit → List Value
  | .agg ds => ds.map val1
  | d => [val1 d]
def row2 : DataW Unit → List Value
  | .agg ds => ds.flatMap row1
  | _ => []
def putVar (h : Array Obj) (g : Nat) (cs : List Value) : Array Obj := h.modify g fun
      | .cells _ t frozen => .cells cs.toArray t frozen
      | o => o
def errText (d : DataW Unit) : Value :=
  match d with
  | .iface _ (.ptr (.agg [x])) => val1 x
  | _ => .nilIface
noncomputable def laidWorld (os : Os) : World :=
  let w := World.holding Tryz.prog os ⟨#[.cells #[errText Rows.laid_strconv_ErrSyntax] 245, .cells #[errText Rows.laid_strconv_ErrRange] 245], #[], []⟩
  let h := putVar w.heap 0 (row1 Rows.laid_vidimus_anchors_words)
  let h := putVar h 2 (row1 Rows.laid_internal_strconv_uint64pow10)
  let h := putVar h 3 (row1 Rows.laid_unicode_utf8_first)
  let h := putVar h 4 (row2 Rows.laid_unicode_utf8_acceptRanges)
  let h := putVar h 5 [.iface 243 (.pointer (some ⟨Tryz.prog.low, 0, none⟩))]
  let h := putVar h 6 [.iface 243 (.pointer (some ⟨Tryz.prog.low + 1, 0, none⟩))]
  let h := putVar h 7 (row1 Rows.laid_math_bits_deBruijn32tab)
  let h := putVar h 8 (row1 Rows.laid_math_bits_deBruijn64tab)
  { w with heap := h }
theorem laid_met (os : Os) (args : Array Value) : laidMet Tryz.prog Rows.anchorsInputsRow.laid ((laidWorld os).forCall (fun _ _ => 0) ⟨#[], args, []⟩).memory :=
  laidMet_of_run' 8 (by kernel_rfl) (by kernel_rfl)
end Mini
end Go.Proofs.YtgjlofpfbhioaaaGreatDoor
namespace Go.Proofs.YtgjlofpfbhioaaaGreatDoor
namespace Mini
open Go Go.ChangeShapes Go.WideShapes Go.ChangeAt Go.RowKit
section
variable {H : Type} {enc : TypeId × Value → H} {W : World} {base : Nat} {sp : Nat → Bool} {held : Bool}
theorem open_je {n : Nat} {cs : List Value} {y : DataW H × List MemPlace} (h : DataW.trod enc Tryz.prog W base sp held n 70 cs = some y) : ∃ x : En, RelDs (imW W) (En.ds x) cs ∧ (En.ds x).length = 5 ∧ isSet x.w x.l ∧ wfS x.l := by
  have c4 : Tryz.prog.cellsOf 4 = 1 := by kernel_rfl
  have c9 : Tryz.prog.cellsOf 9 = 1 := by kernel_rfl
  have c68 : Tryz.prog.cellsOf 68 = 1 := by kernel_rfl
  have c3 : Tryz.prog.cellsOf 3 = 1 := by kernel_rfl
  have c22 : Tryz.prog.cellsOf 22 = 1 := by kernel_rfl
  have c70 : Tryz.prog.cellsOf 70 = 5 := by kernel_rfl
  obtain ⟨xs, k, rfl, rfl, hl, hn, hi⟩ := DataW.trod_struct Tryz.underlying70 h
  rw [c70] at hl
  have hn : xs.length = 5 := hn
  have h0 : DataW.trod enc Tryz.prog W base sp held k 9 ((cs.drop 0).take (Tryz.prog.cellsOf 9)) = xs[0]? := hi 0 _ rfl
  have h1 : DataW.trod enc Tryz.prog W base sp held k 4 ((cs.drop 1).take (Tryz.prog.cellsOf 4)) = xs[1]? := hi 1 _ rfl
  have h2 : DataW.trod enc Tryz.prog W base sp held k 68 ((cs.drop 2).take (Tryz.prog.cellsOf 68)) = xs[2]? := hi 2 _ rfl
  have h3 : DataW.trod enc Tryz.prog W base sp held k 3 ((cs.drop 3).take (Tryz.prog.cellsOf 3)) = xs[3]? := hi 3 _ rfl
  have h4 : DataW.trod enc Tryz.prog W base sp held k 22 ((cs.drop 4).take (Tryz.prog.cellsOf 22)) = xs[4]? := hi 4 _ rfl
  simp only [c3, c4, c9, c22, c68] at h0 h1 h2 h3 h4
  rw [List.getElem?_eq_getElem (by omega)] at h0 h1 h2 h3 h4
  obtain ⟨s, e0, _, _⟩ := DataW.trod_string Tryz.underlying9 h0
  obtain ⟨b1, e1, _⟩ := DataW.trod_bool Tryz.underlying4 h1
  obtain ⟨z2, e2, _, w2⟩ := DataW.trod_int Tryz.underlying68 h2
  obtain ⟨z3, e3, _, _⟩ := DataW.trod_int Tryz.underlying3 h3
  obtain ⟨v, w, l, e4, hw, hwf, hr⟩ := open_set h4
  have q2 := bounds_u8 w2
  obtain ⟨v0, v1, v2, v3, v4, rfl⟩ := list_five hl
  simp at e0 e1 e2 e3 e4
  subst e0 e1 e2 e3 e4
  refine ⟨⟨s.data.toList.map UInt8.toNat, b1, z2.toNat, z3, w, l⟩, ?_, rfl, hw, hwf⟩
  simp only [En.ds, RelDs, RelD]
  exact ⟨⟨s, rfl, rfl⟩, trivial, by rw [Int.toNat_of_nonneg q2.1], trivial, hr, trivial⟩
theorem open_jel {n : Nat} {cs : List Value} {y : DataW H × List MemPlace} (h : DataW.trod enc Tryz.prog W base sp held n 70 cs = some y) : cs.length = 5 := by
  have c70 : Tryz.prog.cellsOf 70 = 5 := by kernel_rfl
  obtain ⟨xs, k, rfl, rfl, hl, _, _⟩ := DataW.trod_struct Tryz.underlying70 h
  rw [c70] at hl
  exact hl
end
end Mini
end Go.Proofs.YtgjlofpfbhioaaaGreatDoor
