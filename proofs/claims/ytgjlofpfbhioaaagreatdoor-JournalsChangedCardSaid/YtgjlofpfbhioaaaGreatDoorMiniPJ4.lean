/-
  JournalsChanged: what its calls owe the row; a witness.
-/
import Derived.Test.YtgjlofpfbhioaaaGreatDoorJX24
import Derived.Test.YtgjlofpfbhioaaaGreatDoorCards
import Derived.Test.YtgjlofpfbhioaaaGreatDoorTie
import Derived.WalkKit
import Derived.ProofKit
import Derived.OpenShut
import Derived.Deep.DeepHandedRow
import Derived.Lib.LaidTab
namespace Go.Proofs.YtgjlofpfbhioaaaGreatDoor.journalsChanged
open Go Go.ChangeShapes Go.WideShapes Go.ChangeAt Go.RowKit Go.ChangeMaps Go.Proofs.YtgjlofpfbhioaaaGreatDoor.Mini

theorem laid_plain {W : World} (h : laidMetH Tryz.prog Rows.journalsChangedRow.laid W) : laidMet Tryz.prog Rows.journalsChangedRow.laid W := by
  unfold laidMetH at h
  rw [show Rows.journalsChangedRow.laid.filter (fun x => x.2.handleName?.isSome) = [] from by kernel_rfl] at h
  exact h

set_option maxRecDepth 100000 in
theorem contract (H : Type) (enc : TypeId × Value → H) (W : World) (base : Nat) (args : Array Value) (ds gs : List (DataW H)) (before : List MemPlace)
    (hval : ∀ (j : Nat) t v, Tryz.f9.params[j]? = some t → args[j]? = some v → Value.okWide Tryz.prog W .any base t v)
    (hW : DataW.Whole enc Tryz.prog Tryz.f9.params.toList Rows.journalsChangedSpec.vars false W args.toList ds gs before) (hL : laidMetH Tryz.prog Rows.journalsChangedRow.laid W) (hS : W.ShapedOpen Tryz.prog) :
    Calls Tryz.prog 9 args W fun e W' => ∃ v, e = .returned v ∧ Rows.journalsChangedSpec.post enc Tryz.prog Tryz.f9 false true false false W args v W' := by
  obtain ⟨m, hG⟩ := globs_of (laid_plain hL) hS (by unfold Rows.journalsChangedRow; simp) (by unfold Rows.journalsChangedRow; simp)
  have hW' := hW
  obtain ⟨p, q, hA0, hV, rfl, hfz, hnd⟩ := hW
  have hA : DataW.TrodAll enc Tryz.prog W 0 (fun _ => true) true Tryz.f9.params.toList args.toList ds p := hA0
  rw [Tryz.params9] at hA hval
  obtain ⟨v0, vs0, d0, ds0, p0, q0, hargs0, rfl, rfl, h0, r0⟩ := trodAll_cons hA
  obtain ⟨v1, vs1, d1, ds1, p1, q1, hargs1, rfl, rfl, h1, r1⟩ := trodAll_cons r0
  obtain ⟨v2, vs2, d2, ds2, p2, q2, hargs2, rfl, rfl, h2, r2⟩ := trodAll_cons r1
  obtain ⟨rfl, rfl, rfl⟩ := trodAll_nil r2
  subst hargs1
  subst hargs2
  obtain rfl : args = #[v0, v1, v2] := by cases args; simp_all
  obtain ⟨rfl, rfl⟩ := trodVars_none hV
  clear hA0 hA
  obtain ⟨a0, n0, c0, rfl⟩ := okWide_slice Tryz.underlying64 (hval 0 64 _ rfl rfl)
  obtain ⟨f0, t0⟩ := h0
  obtain ⟨w0, l0, hw0, hl0, hr0⟩ := open_ejs t0
  obtain ⟨z1, rfl, _, _, hz1⟩ := open_int Tryz.underlying76 (hval 1 76 _ rfl rfl) h1
  have hb1 := bounds_u16 hz1
  obtain ⟨y1, rfl⟩ := Int.eq_ofNat_of_zero_le hb1.1
  obtain ⟨z2, rfl, _, _, hz2⟩ := open_int Tryz.underlying5 (hval 2 5 _ rfl rfl) h2
  have hb2 := bounds_u8 hz2
  obtain ⟨y2, rfl⟩ := Int.eq_ofNat_of_zero_le hb2.1
  have hv0 := (show RelV (mm (imW W)) (.c (.d w0)) _ from by simp only [RelV, RelC]; exact hr0)
  have hv1 := (show RelV (mm (imW W)) (.c (.d (.int .u16 (y1 : Int)))) _ from intRel)
  have hv2 := (show RelV (mm (imW W)) (.c (.d (.int .u8 (y2 : Int)))) _ from intRel)
  have walk : Calls Tryz.prog 9 _ W fun e W' => e = .returned (.bool true) ∧ Below W.heap.size W W' :=
    calls_true (vs := [.c (.d w0), .c (.d (.int .u16 (y1 : Int))), .c (.d (.int .u8 (y2 : Int)))]) (us := [_, _, _]) (XJ_ok m) rfl hG (f9 (XJOj m) (N := 300000) (Nat.le_refl _) hw0 hl0 (at' := y1) (by omega) (ch := y2) (by omega)) (by simp only [RelVs]; exact ⟨hv0, ⟨hv1, ⟨hv2, trivial⟩⟩⟩) rfl
  refine walk.mono fun e W' ⟨he, hb⟩ => ?_
  subst he
  exact ⟨_, rfl, post_args hW' (by kernel_rfl) rfl rfl rfl (fun _ _ _ => trodAll_cons_mk (shut_bool Tryz.underlying4 _) trodAll_mk0) hb (ok_one (by kernel_rfl) rfl (okWide_bool_mk Tryz.underlying4 _))⟩

def a0 : Value := .slice none 0 0
def a1 : Value := .int .u16 0
def a2 : Value := .int .u8 0
theorem laid_met (os : Os) (args : Array Value) : laidMet Tryz.prog Rows.journalsChangedRow.laid ((laidWorld os).forCall (fun _ _ => 0) ⟨#[], args, []⟩).memory :=
  laidMet_of_run' 8 (by kernel_rfl) (by kernel_rfl)
theorem reads (os : Os) {H : Type} (enc : TypeId × Value → H) : ∃ places, DataW.whole enc Tryz.prog ((laidWorld os).forCall (fun _ _ => 0) ⟨#[], #[a0, a1, a2], []⟩).memory Tryz.f9.params.toList Rows.journalsChangedSpec.vars false #[a0, a1, a2].toList 8 = some ([.nil, .lit (.int .u16 0), .lit (.int .u8 0)], [], places) :=
  ⟨[], by kernel_rfl⟩

set_option maxRecDepth 100000 in
theorem lifted (os : Os) (started : os.Started) (H : Type) (enc : TypeId × Value → H) (F : Stop.Interp) :
    ReturnsInHanded {} Tryz.checked os 9 .any ((OpenSpec.ofChange Rows.journalsChangedSpec).preRow enc Tryz.prog Tryz.f9 Rows.journalsChangedRow.domain false Rows.journalsChangedRow.laid) (((OpenSpec.ofChange Rows.journalsChangedSpec).at F).post enc Tryz.prog Tryz.f9 false true false false) := by
  obtain ⟨places, hx⟩ := reads os enc
  refine returnsInHanded_of_row (C := Tryz.checked) (s := OpenSpec.ofChange Rows.journalsChangedSpec) own started (by kernel_rfl) Tryz.func9
    (witness_row_at (enc := enc) (C := Tryz.checked) false (laidWorld os) #[a0, a1, a2] rfl (by kernel_rfl) (by kernel_rfl) (by kernel_rfl)
      (OpenSpec.preRow_of_cond 8 hx (by kernel_rfl) (fun k hk => by cases hk) (by kernel_rfl) (laid_met os _))) ?_
  intro W base args ds gs before hval hW _ _ _ hL hS _
  exact contract H enc W base args ds gs before hval hW hL hS
end Go.Proofs.YtgjlofpfbhioaaaGreatDoor.journalsChanged
