/-
  From the abstract machine's answer to what a row asks.
-/
import Derived.Test.YtmcgaakbkgdljaaGreatDoorMiniV2
import Derived.Test.YtmcgaakbkgdljaaGreatDoorRows
import Derived.ProofKit
import Derived.OpenShut
import Derived.Deep.Slices
import Derived.Carry
import Derived.WalkKit
namespace Go.Proofs.YtmcgaakbkgdljaaGreatDoor
namespace Mini
open Go Go.ChangeShapes Go.WideShapes Go.ChangeAt Go.RowKit Go.Deep
/-- All that is there when the call begins. -/
def imW (W : World) : Imm := fun B => W.heap[B]?
theorem laidOut : laidOutB Tryz.prog = true := by kernel_rfl
/-- An answer 'true' of the abstract machine, as a statement about the code. -/
theorem calls_true {X : Ctx} (hX : CtxOk Tryz.prog X) {n : Nat} {f : FuncId} {vs : List V} {W : World} {us : List Value} (hg : X.glob = fun _ => none) (h : vcallN X n f vs = some (.c (.d (.bool true)))) (hr : RelVs (mm (imW W)) vs us) (hl : vs.length = us.length) :
    Calls Tryz.prog f us.toArray W fun e W' => e = .returned (.bool true) ∧ Below W.heap.size W W' := by
  refine (vcallN_ok hX h (imW W) W us (by rw [hg]; exact fun _ _ h => by cases h) (fun _ _ h => h) hr hl).mono fun e W' hh => ?_
  obtain ⟨v', I', rfl, h1, _, _, _, h2, h3, h4, h5, h6⟩ := hh
  simp only [RelV, RelC, RelD] at h1
  subst h1
  exact ⟨rfl, h2, h3, h4, h5, h6⟩
set_option maxRecDepth 100000 in
/-- What a call that answers 'true' and lays new memory alone owes its row: the arguments read as before. -/
theorem post_args {H : Type} {enc : TypeId × Value → H} {f : Func} {s : ChangeSpec} {apart fresh handsOn again : Bool} {W W' : World} {args : Array Value} {v : Value} {ds : List (DataW H)} {before : List MemPlace}
    (hW : DataW.Whole enc Tryz.prog f.params.toList s.vars apart W args.toList ds [] before)
    (hpar : f.params.toList.all (fun t => Tryz.prog.readableRec t && decide (t < Tryz.prog.types.size)) = true)
    (hsv : s.vars = []) (hsd : (s.fn H ds).args = ds) (hsv2 : (s.fn H ds).vars = [])
    (hres : ∀ (b : Nat) (sp : Nat → Bool) (hd : Bool), DataW.TrodAll enc Tryz.prog W' b sp hd f.resultTypes.toList (v.resultList f.resultTypes.size) (s.fn H ds).results [])
    (hb : Below W.heap.size W W')
    (hok : ∀ (j : Nat) (t : TypeId) (r : Value), f.resultTypes[j]? = some t → (v.resultList f.resultTypes.size)[j]? = some r → Value.okWide Tryz.prog W' .any 0 t r) :
    s.post enc Tryz.prog f apart fresh handsOn again W args v W' := by
  have hlt : ∀ p ∈ before, p.block < W.heap.size := fun p hp => hW.lt p hp
  have hW0 := hW
  obtain ⟨pa, pv, hA, hV, hps, hz, hn⟩ := hW
  rw [hsv] at hV
  obtain ⟨_, rfl⟩ := trodVars_none hV
  have hargs : ∀ sp : Nat → Bool, (∀ p ∈ before, sp p.block = true) → DataW.TrodAll enc Tryz.prog W' 0 sp true f.params.toList args.toList ds pa := by
    intro sp hsp
    rw [hps, List.append_nil] at hsp hlt
    have key : ∀ (ts : List TypeId) (vs : List Value) (ds : List (DataW H)) (pa : List MemPlace), ts.all (fun t => Tryz.prog.readableRec t && decide (t < Tryz.prog.types.size)) = true → DataW.TrodAll enc Tryz.prog W 0 (fun _ => true) true ts vs ds pa → (∀ p ∈ pa, sp p.block = true) → (∀ p ∈ pa, p.block < W.heap.size) → DataW.TrodAll enc Tryz.prog W' 0 sp true ts vs ds pa := by
      intro ts
      induction ts with
      | nil =>
        intro vs ds pa _ h _ _
        cases vs with
        | nil => cases ds with
          | nil => exact h
          | cons _ _ => exact h.elim
        | cons _ _ => cases ds <;> exact h.elim
      | cons t ts ih =>
        intro vs ds pa hall h h1 h2
        cases vs with
        | nil => cases ds <;> exact h.elim
        | cons v vs =>
          cases ds with
          | nil => exact h.elim
          | cons d ds =>
            obtain ⟨p, q, ha, hb', rfl⟩ := h
            rw [List.all_cons, Bool.and_eq_true, Bool.and_eq_true] at hall
            refine ⟨p, q, ?_, ih vs ds q hall.2 hb' (fun x hx => h1 x (List.mem_append_right _ hx)) (fun x hx => h2 x (List.mem_append_right _ hx)), rfl⟩
            exact WideElems.Trod_stays laidOut hall.1.1 (of_decide_eq_true hall.1.2) ha (fun x hx => hb.same (h2 x (List.mem_append_left _ hx))) (fun x hx => h1 x (List.mem_append_left _ hx))
    exact key _ _ _ _ hpar hA hsp hlt
  have hsd' : (s.fn H (ds ++ [])).args = ds := by rw [List.append_nil]; exact hsd
  have hres' : ∀ (b : Nat) (sp : Nat → Bool) (hd : Bool), DataW.TrodAll enc Tryz.prog W' b sp hd f.resultTypes.toList (v.resultList f.resultTypes.size) (s.fn H (ds ++ [])).results [] := by rw [List.append_nil]; exact hres
  have hvars : ∀ sp : Nat → Bool, DataW.TrodVars enc Tryz.prog W' sp s.vars (s.fn H (ds ++ [])).vars [] := by
    intro sp
    rw [hsv, List.append_nil, hsv2]
    rfl
  refine ⟨ds, [], before, [], pa, [], hW0, hres' _ _ _, by rw [hsd']; exact hargs _ (fun p hp => by simpa using hlt p hp), hvars _, hb.frame _, fun _ => ?_⟩
  refine ⟨hok, _, _, ([] ++ pa) ++ [], ⟨[] ++ pa, [], trodAll_append (hargs _ (fun _ _ => rfl)) (hres' _ _ _), hvars _, rfl, ?_, ?_⟩, ?_⟩
  · intro b off hp
    have hin : MemPlace.cell b off ∈ before := by rw [hps]; simpa using hp
    have hlb := hlt _ hin
    have := hz b off hin
    simp only [World.frozen?] at this ⊢
    rw [hb.block b (by simpa [MemPlace.block] using hlb)]
    exact this
  · intro ha
    have := hn ha
    rw [hps] at this
    simpa using this
  · intro p hp _
    rw [hps]
    simpa using hp
end Mini
end Go.Proofs.YtmcgaakbkgdljaaGreatDoor
