/-
  JournalsCheck: what its calls owe the row; a witness.
-/
import Derived.Test.YtgjlofpfbhioaaaGreatDoorNX25
import Derived.Test.YtgjlofpfbhioaaaGreatDoorCards
import Derived.Test.YtgjlofpfbhioaaaGreatDoorTie
import Derived.WalkKit
import Derived.ProofKit
import Derived.OpenShut
import Derived.Deep.DeepHandedRow
import Derived.Lib.LaidTab
namespace Go.Proofs.YtgjlofpfbhioaaaGreatDoor.journalsCheck
open Go Go.ChangeShapes Go.WideShapes Go.ChangeAt Go.RowKit Go.ChangeMaps Go.Proofs.YtgjlofpfbhioaaaGreatDoor.Mini

theorem laid_plain {W : World} (h : laidMetH Tryz.prog Rows.journalsCheckRow.laid W) : laidMet Tryz.prog Rows.journalsCheckRow.laid W := by
  unfold laidMetH at h
  rw [show Rows.journalsCheckRow.laid.filter (fun x => x.2.handleName?.isSome) = [] from by kernel_rfl] at h
  exact h

set_option maxRecDepth 100000 in
theorem contract (H : Type) (enc : TypeId × Value → H) (W : World) (base : Nat) (args : Array Value) (ds gs : List (DataW H)) (before : List MemPlace)
    (hval : ∀ (j : Nat) t v, Tryz.f13.params[j]? = some t → args[j]? = some v → Value.okWide Tryz.prog W .any base t v)
    (hW : DataW.Whole enc Tryz.prog Tryz.f13.params.toList Rows.journalsCheckSpec.vars false W args.toList ds gs before) (hL : laidMetH Tryz.prog Rows.journalsCheckRow.laid W) (hS : W.ShapedOpen Tryz.prog) :
    Calls Tryz.prog 13 args W fun e W' => ∃ v, e = .returned v ∧ Rows.journalsCheckSpec.post enc Tryz.prog Tryz.f13 false true false false W args v W' := by
  obtain ⟨m, hG⟩ := globs_of (laid_plain hL) hS (by unfold Rows.journalsCheckRow; simp) (by unfold Rows.journalsCheckRow; simp)
  have hW' := hW
  obtain ⟨p, q, hA0, hV, rfl, hfz, hnd⟩ := hW
  have hA : DataW.TrodAll enc Tryz.prog W 0 (fun _ => true) true Tryz.f13.params.toList args.toList ds p := hA0
  rw [Tryz.params13] at hA hval
  obtain ⟨v0, vs0, d0, ds0, p0, q0, hargs0, rfl, rfl, h0, r0⟩ := trodAll_cons hA
  obtain ⟨rfl, rfl, rfl⟩ := trodAll_nil r0
  obtain rfl : args = #[v0] := by cases args; simp_all
  obtain ⟨rfl, rfl⟩ := trodVars_none hV
  clear hA0 hA
  obtain ⟨f0, t0⟩ := h0
  obtain ⟨x0, c0, e0, hw0, hl0⟩ := open_je t0
  have hv0 := (show RelV (mm (imW W)) (.agg (x0.ds.map .d)) _ from rel_agg c0 ((open_jel t0).trans e0.symm) (by rw [e0]; decide))
  have walk : Calls Tryz.prog 13 _ W fun e W' => e = .returned (.bool true) ∧ Below W.heap.size W W' :=
    calls_true (vs := [.agg (x0.ds.map .d)]) (us := [_]) (XR_ok m) rfl hG (f13 (XROr m) (N := 200000) (Nat.le_refl _) hw0 hl0) (by simp only [RelVs]; exact ⟨hv0, trivial⟩) rfl
  refine walk.mono fun e W' ⟨he, hb⟩ => ?_
  subst he
  exact ⟨_, rfl, post_args hW' (by kernel_rfl) rfl rfl rfl (fun _ _ _ => trodAll_cons_mk (shut_bool Tryz.underlying4 _) trodAll_mk0) hb (ok_one (by kernel_rfl) rfl (okWide_bool_mk Tryz.underlying4 _))⟩

def a0 : Value := .agg #[.string ⟨#[]⟩, .bool false, .int .u8 0, .int .i64 0, .slice none 0 0]
theorem laid_met (os : Os) (args : Array Value) : laidMet Tryz.prog Rows.journalsCheckRow.laid ((laidWorld os).forCall (fun _ _ => 0) ⟨#[], args, []⟩).memory :=
  laidMet_of_run' 8 (by kernel_rfl) (by kernel_rfl)
theorem reads (os : Os) {H : Type} (enc : TypeId × Value → H) : ∃ places, DataW.whole enc Tryz.prog ((laidWorld os).forCall (fun _ _ => 0) ⟨#[], #[a0], []⟩).memory Tryz.f13.params.toList Rows.journalsCheckSpec.vars false #[a0].toList 8 = some ([.agg [.lit (.string []), .lit (.bool false), .lit (.int .u8 0), .lit (.int .i64 0), .nil]], [], places) :=
  ⟨[], by kernel_rfl⟩

set_option maxRecDepth 100000 in
theorem lifted (os : Os) (started : os.Started) (H : Type) (enc : TypeId × Value → H) (F : Stop.Interp) :
    ReturnsInHanded {} Tryz.checked os 13 .any ((OpenSpec.ofChange Rows.journalsCheckSpec).preRow enc Tryz.prog Tryz.f13 Rows.journalsCheckRow.domain false Rows.journalsCheckRow.laid) (((OpenSpec.ofChange Rows.journalsCheckSpec).at F).post enc Tryz.prog Tryz.f13 false true false false) := by
  obtain ⟨places, hx⟩ := reads os enc
  refine returnsInHanded_of_row (C := Tryz.checked) (s := OpenSpec.ofChange Rows.journalsCheckSpec) own started (by kernel_rfl) Tryz.func13
    (witness_row_at (enc := enc) (C := Tryz.checked) false (laidWorld os) #[a0] rfl (by kernel_rfl) (by kernel_rfl) (by kernel_rfl)
      (OpenSpec.preRow_of_cond 8 hx (by kernel_rfl) (fun k hk => by cases hk) (by kernel_rfl) (laid_met os _))) ?_
  intro W base args ds gs before hval hW _ _ _ hL hS _
  exact contract H enc W base args ds gs before hval hW hL hS
end Go.Proofs.YtgjlofpfbhioaaaGreatDoor.journalsCheck
