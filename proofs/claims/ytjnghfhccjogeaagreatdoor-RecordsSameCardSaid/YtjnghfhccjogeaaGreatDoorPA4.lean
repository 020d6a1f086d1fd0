/-
  RecordsSame: what its calls owe the row; a witness.
-/
import Derived.Test.YtjnghfhccjogeaaGreatDoorAS7
import Derived.Test.YtjnghfhccjogeaaGreatDoorAJO1
import Derived.Test.YtjnghfhccjogeaaGreatDoorCards
import Derived.Test.YtjnghfhccjogeaaGreatDoorTie
import Derived.WalkKit
import Derived.ProofKit
import Derived.OpenShut
import Derived.Deep.DeepHandedRow
import Derived.Lib.LaidTab
namespace Go.Proofs.YtjnghfhccjogeaaGreatDoor.recordsSame
open Go Go.ChangeShapes Go.WideShapes Go.ChangeAt Go.RowKit Go.ChangeMaps Go.Proofs.YtjnghfhccjogeaaGreatDoor.Mini

theorem laid_plain {W : World} (h : laidMetH Tryz.prog Rows.recordsSameRow.laid W) : laidMet Tryz.prog Rows.recordsSameRow.laid W := by
  unfold laidMetH at h
  rw [show Rows.recordsSameRow.laid.filter (fun x => x.2.handleName?.isSome) = [] from by kernel_rfl] at h
  exact h

set_option maxRecDepth 100000 in
theorem contract (H : Type) (enc : TypeId × Value → H) (W : World) (base : Nat) (args : Array Value) (ds gs : List (DataW H)) (before : List MemPlace)
    (hval : ∀ (j : Nat) t v, Tryz.f10.params[j]? = some t → args[j]? = some v → Value.okWide Tryz.prog W .any base t v)
    (hW : DataW.Whole enc Tryz.prog Tryz.f10.params.toList Rows.recordsSameSpec.vars false W args.toList ds gs before) (hL : laidMetH Tryz.prog Rows.recordsSameRow.laid W) (hS : W.ShapedOpen Tryz.prog) :
    Calls Tryz.prog 10 args W fun e W' => ∃ v, e = .returned v ∧ Rows.recordsSameSpec.post enc Tryz.prog Tryz.f10 false true false false W args v W' := by
  obtain ⟨m, hG⟩ := globs_of (laid_plain hL) hS (by unfold Rows.recordsSameRow; simp)
  have hW' := hW
  obtain ⟨p, q, hA0, hV, rfl, hfz, hnd⟩ := hW
  have hA : DataW.TrodAll enc Tryz.prog W 0 (fun _ => true) true Tryz.f10.params.toList args.toList ds p := hA0
  rw [Tryz.params10] at hA hval
  obtain ⟨v0, vs0, d0, ds0, p0, q0, hargs0, rfl, rfl, h0, r0⟩ := trodAll_cons hA
  obtain ⟨v1, vs1, d1, ds1, p1, q1, hargs1, rfl, rfl, h1, r1⟩ := trodAll_cons r0
  obtain ⟨rfl, rfl, rfl⟩ := trodAll_nil r1
  subst hargs1
  obtain rfl : args = #[v0, v1] := by cases args; simp_all
  obtain ⟨rfl, rfl⟩ := trodVars_none hV
  clear hA0 hA
  obtain ⟨f0, t0⟩ := h0
  obtain ⟨x0, c0, e0, ok0⟩ := open_re t0
  obtain ⟨f1, t1⟩ := h1
  obtain ⟨x1, c1, e1, ok1⟩ := open_re t1
  have hv0 := (show RelV (mm (imW W)) (.agg x0.cs) _ from rel_agg (ds := x0.ds) c0 e0 (by decide : (8 : Nat) ≠ 1))
  have hv1 := (show RelV (mm (imW W)) (.agg x1.cs) _ from rel_agg (ds := x1.ds) c1 e1 (by decide : (8 : Nat) ≠ 1))
  have walk : Calls Tryz.prog 10 _ W fun e W' => e = .returned (.bool true) ∧ Below W.heap.size W W' :=
    calls_true (vs := [.agg x0.cs, .agg x1.cs]) (us := [_, _]) (XS_ok m) rfl hG (f10 (m := m) (CtxLe.refl _) (N := 600) (Nat.le_refl _) ok0 ok1) (by simp only [RelVs]; exact ⟨hv0, ⟨hv1, trivial⟩⟩) rfl
  refine walk.mono fun e W' ⟨he, hb⟩ => ?_
  subst he
  exact ⟨_, rfl, post_args hW' (by kernel_rfl) rfl rfl rfl (fun _ _ _ => trodAll_cons_mk (shut_bool Tryz.underlying4 _) trodAll_mk0) hb (ok_one (by kernel_rfl) rfl (okWide_bool_mk Tryz.underlying4 _))⟩

def a0 : Value := .agg #[.bool false, .bool false, .slice none 0 0, .bool false, .slice none 0 0, .int .i64 0, .int .i64 0, .int .i64 0]
def a1 : Value := .agg #[.bool false, .bool false, .slice none 0 0, .bool false, .slice none 0 0, .int .i64 0, .int .i64 0, .int .i64 0]
theorem laid_met (os : Os) (args : Array Value) : laidMet Tryz.prog Rows.recordsSameRow.laid ((laidWorld os).forCall (fun _ _ => 0) ⟨#[], args, []⟩).memory :=
  laidMet_of_run' 8 (by kernel_rfl) (by kernel_rfl)
theorem reads (os : Os) {H : Type} (enc : TypeId × Value → H) : ∃ places, DataW.whole enc Tryz.prog ((laidWorld os).forCall (fun _ _ => 0) ⟨#[], #[a0, a1], []⟩).memory Tryz.f10.params.toList Rows.recordsSameSpec.vars false #[a0, a1].toList 8 = some ([.agg [.lit (.bool false), .lit (.bool false), .nil, .lit (.bool false), .nil, .lit (.int .i64 0), .lit (.int .i64 0), .lit (.int .i64 0)], .agg [.lit (.bool false), .lit (.bool false), .nil, .lit (.bool false), .nil, .lit (.int .i64 0), .lit (.int .i64 0), .lit (.int .i64 0)]], [], places) :=
  ⟨[], by kernel_rfl⟩

set_option maxRecDepth 100000 in
theorem lifted (os : Os) (started : os.Started) (H : Type) (enc : TypeId × Value → H) (F : Stop.Interp) :
    ReturnsInHanded {} Tryz.checked os 10 .any ((OpenSpec.ofChange Rows.recordsSameSpec).preRow enc Tryz.prog Tryz.f10 Rows.recordsSameRow.domain false Rows.recordsSameRow.laid) (((OpenSpec.ofChange Rows.recordsSameSpec).at F).post enc Tryz.prog Tryz.f10 false true false false) := by
  obtain ⟨places, hx⟩ := reads os enc
  refine returnsInHanded_of_row (C := Tryz.checked) (s := OpenSpec.ofChange Rows.recordsSameSpec) own started (by kernel_rfl) Tryz.func10
    (witness_row_at (enc := enc) (C := Tryz.checked) false (laidWorld os) #[a0, a1] rfl (by kernel_rfl) (by kernel_rfl) (by kernel_rfl)
      (OpenSpec.preRow_of_cond 8 hx (by kernel_rfl) (fun k hk => by cases hk) (by kernel_rfl) (laid_met os _))) ?_
  intro W base args ds gs before hval hW _ _ _ hL hS _
  exact contract H enc W base args ds gs before hval hW hL hS
end Go.Proofs.YtjnghfhccjogeaaGreatDoor.recordsSame
