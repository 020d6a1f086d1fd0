/-
  AnchorsInputs: what its calls owe the row; a witness.
-/
import Derived.Test.YtgjlofpfbhioaaaGreatDoorMiniJO
import Derived.Test.YtgjlofpfbhioaaaGreatDoorCards
import Derived.Test.YtgjlofpfbhioaaaGreatDoorTie
import Derived.WalkKit
import Derived.ProofKit
import Derived.OpenShut
import Derived.Deep.DeepHandedRow
import Derived.Lib.LaidTab
namespace Go.Proofs.YtgjlofpfbhioaaaGreatDoor.anchorsInputs
open Go Go.ChangeShapes Go.WideShapes Go.ChangeAt Go.RowKit Go.Proofs.YtgjlofpfbhioaaaGreatDoor.Mini

theorem laid_plain {W : World} (h : laidMetH Tryz.prog Rows.anchorsInputsRow.laid W) : laidMet Tryz.prog Rows.anchorsInputsRow.laid W := by
  unfold laidMetH at h
  rw [show Rows.anchorsInputsRow.laid.filter (fun x => x.2.handleName?.isSome) = [] from by kernel_rfl] at h
  exact h

set_option maxRecDepth 100000 in
theorem contract (H : Type) (enc : TypeId × Value → H) (W : World) (args : Array Value) (ds gs : List (DataW H)) (before : List MemPlace)
    (hW : DataW.Whole enc Tryz.prog Tryz.f3.params.toList Rows.anchorsInputsSpec.vars false W args.toList ds gs before) (hL : laidMetH Tryz.prog Rows.anchorsInputsRow.laid W) (hS : W.ShapedOpen Tryz.prog) :
    Calls Tryz.prog 3 args W fun e W' => ∃ v, e = .returned v ∧ Rows.anchorsInputsSpec.post enc Tryz.prog Tryz.f3 false true false false W args v W' := by
  obtain ⟨m, hG⟩ := globs_of (laid_plain hL) hS (.tail _ (.tail _ (.tail _ (.tail _ (.tail _ (.tail _ (.head _))))))) (.tail _ (.tail _ (.head _))) (.tail _ (.tail _ (.tail _ (.tail _ (.head _)))))
  have hW' := hW
  obtain ⟨p, q, hA0, hV, rfl, hfz, hnd⟩ := hW
  have hA : DataW.TrodAll enc Tryz.prog W 0 (fun _ => true) true Tryz.f3.params.toList args.toList ds p := hA0
  rw [Tryz.params3] at hA
  obtain ⟨v0, vs0, d0, ds0, p0, q0, hargs0, rfl, rfl, h0, r0⟩ := trodAll_cons hA
  obtain ⟨v1, vs1, d1, ds1, p1, q1, hargs1, rfl, rfl, h1, r1⟩ := trodAll_cons r0
  obtain ⟨rfl, rfl, rfl⟩ := trodAll_nil r1
  subst hargs1
  obtain rfl : args = #[v0, v1] := by cases args; simp_all
  obtain ⟨rfl, rfl⟩ := trodVars_none hV
  clear hA0 hA
  obtain ⟨n0, t0⟩ := h0
  obtain ⟨n1, t1⟩ := h1
  obtain ⟨s, w, l, b1, b2, b3, k1, k2, hw, hl, _⟩ := open_anchor t0
  obtain ⟨w', l', c1, c2, c3, k1', k2', hw', hl'⟩ := open_inputs t1
  have hr0 : RelV (mm (imW W)) (.agg (anC s w b1 b2 b3)) v0 := rel_agg (ds := anD s w b1 b2 b3) k2 k1 (by simp [anD])
  have hr1 : RelV (mm (imW W)) (.agg (inC w' c1 c2 c3)) v1 := rel_agg (ds := inD w' c1 c2 c3) k2' k1' (by simp [inD])
  have walk : Calls Tryz.prog 3 #[v0, v1] W fun e W' => e = .returned (.bool true) ∧ Below W.heap.size W W' :=
    calls_true (us := [v0, v1]) (XA_ok m) rfl hG (f3 (XAOk m) (N := 500) (Nat.le_refl _) hw hw' hl hl' (s := s) (b1 := b1) (b2 := b2) (b3 := b3) (c1 := c1) (c2 := c2) (c3 := c3)) (by simp only [RelVs]; exact ⟨hr0, hr1, trivial⟩) rfl
  refine walk.mono fun e W' ⟨he, hb⟩ => ?_
  subst he
  exact ⟨_, rfl, post_args hW' (by kernel_rfl) rfl rfl rfl (fun _ _ _ => trodAll_cons_mk (shut_bool Tryz.underlying4 _) trodAll_mk0) hb (ok_one (by kernel_rfl) rfl (okWide_bool_mk Tryz.underlying4 _))⟩

def a0 : Value := .agg #[.string ⟨#[]⟩, .slice none 0 0, .bool false, .bool false, .bool false]
def a1 : Value := .agg #[.slice none 0 0, .bool false, .bool false, .bool false]
theorem reads (os : Os) {H : Type} (enc : TypeId × Value → H) : ∃ places, DataW.whole enc Tryz.prog ((laidWorld os).forCall (fun _ _ => 0) ⟨#[], #[a0, a1], []⟩).memory Tryz.f3.params.toList Rows.anchorsInputsSpec.vars false #[a0, a1].toList 8 = some ([.agg [.lit (.string []), .nil, .lit (.bool false), .lit (.bool false), .lit (.bool false)], .agg [.nil, .lit (.bool false), .lit (.bool false), .lit (.bool false)]], [], places) :=
  ⟨[], by kernel_rfl⟩

set_option maxRecDepth 100000 in
theorem lifted (os : Os) (started : os.Started) (H : Type) (enc : TypeId × Value → H) (F : Stop.Interp) :
    ReturnsInHanded {} Tryz.checked os 3 .any ((OpenSpec.ofChange Rows.anchorsInputsSpec).preRow enc Tryz.prog Tryz.f3 Rows.anchorsInputsRow.domain false Rows.anchorsInputsRow.laid) (((OpenSpec.ofChange Rows.anchorsInputsSpec).at F).post enc Tryz.prog Tryz.f3 false true false false) := by
  obtain ⟨places, hx⟩ := reads os enc
  refine returnsInHanded_of_row (C := Tryz.checked) (s := OpenSpec.ofChange Rows.anchorsInputsSpec) own started (by kernel_rfl) Tryz.func3
    (witness_row_at (enc := enc) (C := Tryz.checked) false (laidWorld os) #[a0, a1] rfl (by kernel_rfl) (by kernel_rfl) (by kernel_rfl)
      (OpenSpec.preRow_of_cond 8 hx (by kernel_rfl) (fun k hk => by cases hk) (by kernel_rfl) (laid_met os _))) ?_
  intro W base args ds gs before _ hW _ _ _ hL hS _
  exact contract H enc W args ds gs before hW hL hS
end Go.Proofs.YtgjlofpfbhioaaaGreatDoor.anchorsInputs
