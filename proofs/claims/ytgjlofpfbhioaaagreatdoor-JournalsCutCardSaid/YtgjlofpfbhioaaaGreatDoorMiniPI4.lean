/-
  JournalsCut: what its calls owe the row; a witness.
-/
import Derived.Test.YtgjlofpfbhioaaaGreatDoorIX23
import Derived.Test.YtgjlofpfbhioaaaGreatDoorCards
import Derived.Test.YtgjlofpfbhioaaaGreatDoorTie
import Derived.WalkKit
import Derived.ProofKit
import Derived.OpenShut
import Derived.Deep.DeepHandedRow
import Derived.Lib.LaidTab
namespace Go.Proofs.YtgjlofpfbhioaaaGreatDoor.journalsCut
open Go Go.ChangeShapes Go.WideShapes Go.ChangeAt Go.RowKit Go.ChangeMaps Go.Proofs.YtgjlofpfbhioaaaGreatDoor.Mini

theorem laid_plain {W : World} (h : laidMetH Tryz.prog Rows.journalsCutRow.laid W) : laidMet Tryz.prog Rows.journalsCutRow.laid W := by
  unfold laidMetH at h
  rw [show Rows.journalsCutRow.laid.filter (fun x => x.2.handleName?.isSome) = [] from by kernel_rfl] at h
  exact h

set_option maxRecDepth 100000 in
theorem contract (H : Type) (enc : TypeId × Value → H) (W : World) (base : Nat) (args : Array Value) (ds gs : List (DataW H)) (before : List MemPlace)
    (hval : ∀ (j : Nat) t v, Tryz.f11.params[j]? = some t → args[j]? = some v → Value.okWide Tryz.prog W .any base t v)
    (hW : DataW.Whole enc Tryz.prog Tryz.f11.params.toList Rows.journalsCutSpec.vars false W args.toList ds gs before) (hL : laidMetH Tryz.prog Rows.journalsCutRow.laid W) (hS : W.ShapedOpen Tryz.prog) :
    Calls Tryz.prog 11 args W fun e W' => ∃ v, e = .returned v ∧ Rows.journalsCutSpec.post enc Tryz.prog Tryz.f11 false true false false W args v W' := by
  obtain ⟨m, hG⟩ := globs_of (laid_plain hL) hS (by unfold Rows.journalsCutRow; simp) (by unfold Rows.journalsCutRow; simp)
  have hW' := hW
  obtain ⟨p, q, hA0, hV, rfl, hfz, hnd⟩ := hW
  have hA : DataW.TrodAll enc Tryz.prog W 0 (fun _ => true) true Tryz.f11.params.toList args.toList ds p := hA0
  rw [Tryz.params11] at hA hval
  obtain ⟨v0, vs0, d0, ds0, p0, q0, hargs0, rfl, rfl, h0, r0⟩ := trodAll_cons hA
  obtain ⟨v1, vs1, d1, ds1, p1, q1, hargs1, rfl, rfl, h1, r1⟩ := trodAll_cons r0
  obtain ⟨v2, vs2, d2, ds2, p2, q2, hargs2, rfl, rfl, h2, r2⟩ := trodAll_cons r1
  obtain ⟨rfl, rfl, rfl⟩ := trodAll_nil r2
  subst hargs1
  subst hargs2
  obtain rfl : args = #[v0, v1, v2] := by cases args; simp_all
  obtain ⟨rfl, rfl⟩ := trodVars_none hV
  clear hA0 hA
  obtain ⟨a0, n0, c0, rfl⟩ := okWide_slice Tryz.underlying64 (hval 0 64 _ rfl rfl)
  obtain ⟨f0, t0⟩ := h0
  obtain ⟨w0, l0, hw0, hl0, hr0⟩ := open_ejs t0
  obtain ⟨z1, rfl, _, _, hz1⟩ := open_int Tryz.underlying76 (hval 1 76 _ rfl rfl) h1
  have hb1 := bounds_u16 hz1
  obtain ⟨y1, rfl⟩ := Int.eq_ofNat_of_zero_le hb1.1
  obtain ⟨f2, t2⟩ := h2
  obtain ⟨x2, c2, e2, wf2⟩ := open_j t2
  have hv0 := (show RelV (mm (imW W)) (.c (.d w0)) _ from by simp only [RelV, RelC]; exact hr0)
  have hv1 := (show RelV (mm (imW W)) (.c (.d (.int .u16 (y1 : Int)))) _ from intRel)
  have hv2 := (show RelV (mm (imW W)) (.agg (x2.ds.map .d)) _ from rel_agg c2 ((open_jl t2).trans e2.symm) (by rw [e2]; decide))
  have walk : Calls Tryz.prog 11 _ W fun e W' => e = .returned (.bool true) ∧ Below W.heap.size W W' :=
    calls_true (vs := [.c (.d w0), .c (.d (.int .u16 (y1 : Int))), .agg (x2.ds.map .d)]) (us := [_, _, _]) (XJ_ok m) rfl hG (f11 (XJOj m) (N := 300000) (Nat.le_refl _) hw0 hl0 (at' := y1) (by omega) wf2) (by simp only [RelVs]; exact ⟨hv0, ⟨hv1, ⟨hv2, trivial⟩⟩⟩) rfl
  refine walk.mono fun e W' ⟨he, hb⟩ => ?_
  subst he
  exact ⟨_, rfl, post_args hW' (by kernel_rfl) rfl rfl rfl (fun _ _ _ => trodAll_cons_mk (shut_bool Tryz.underlying4 _) trodAll_mk0) hb (ok_one (by kernel_rfl) rfl (okWide_bool_mk Tryz.underlying4 _))⟩

def a0 : Value := .slice none 0 0
def a1 : Value := .int .u16 0
def a2 : Value := .agg #[.int .u8 0, .bool false, .int .u8 0, .int .u8 0, .slice none 0 0]
theorem laid_met (os : Os) (args : Array Value) : laidMet Tryz.prog Rows.journalsCutRow.laid ((laidWorld os).forCall (fun _ _ => 0) ⟨#[], args, []⟩).memory :=
  laidMet_of_run' 8 (by kernel_rfl) (by kernel_rfl)
theorem reads (os : Os) {H : Type} (enc : TypeId × Value → H) : ∃ places, DataW.whole enc Tryz.prog ((laidWorld os).forCall (fun _ _ => 0) ⟨#[], #[a0, a1, a2], []⟩).memory Tryz.f11.params.toList Rows.journalsCutSpec.vars false #[a0, a1, a2].toList 8 = some ([.nil, .lit (.int .u16 0), .agg [.lit (.int .u8 0), .lit (.bool false), .lit (.int .u8 0), .lit (.int .u8 0), .nil]], [], places) :=
  ⟨[], by kernel_rfl⟩

set_option maxRecDepth 100000 in
theorem lifted (os : Os) (started : os.Started) (H : Type) (enc : TypeId × Value → H) (F : Stop.Interp) :
    ReturnsInHanded {} Tryz.checked os 11 .any ((OpenSpec.ofChange Rows.journalsCutSpec).preRow enc Tryz.prog Tryz.f11 Rows.journalsCutRow.domain false Rows.journalsCutRow.laid) (((OpenSpec.ofChange Rows.journalsCutSpec).at F).post enc Tryz.prog Tryz.f11 false true false false) := by
  obtain ⟨places, hx⟩ := reads os enc
  refine returnsInHanded_of_row (C := Tryz.checked) (s := OpenSpec.ofChange Rows.journalsCutSpec) own started (by kernel_rfl) Tryz.func11
    (witness_row_at (enc := enc) (C := Tryz.checked) false (laidWorld os) #[a0, a1, a2] rfl (by kernel_rfl) (by kernel_rfl) (by kernel_rfl)
      (OpenSpec.preRow_of_cond 8 hx (by kernel_rfl) (fun k hk => by cases hk) (by kernel_rfl) (laid_met os _))) ?_
  intro W base args ds gs before hval hW _ _ _ hL hS _
  exact contract H enc W base args ds gs before hval hW hL hS
end Go.Proofs.YtgjlofpfbhioaaaGreatDoor.journalsCut
