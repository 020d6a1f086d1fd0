/-
  From the abstract machine's answer to what a row asks.
-/
import Derived.Test.YtcilepbdddgpoaaDoorMiniM
import Derived.ProofKit
namespace Go.Proofs.YtcilepbdddgpoaaDoor
namespace Mini
open Go Go.ChangeShapes Go.WideShapes Go.ChangeAt Go.RowKit

/-- An answer of the abstract machine without memory, as a statement about the code. -/
theorem calls_true {X : Ctx} (hX : CtxOk Tryd.prog X) {n : Nat} {f : FuncId} {vs : List V} {W : World} {us : List Value} (hg : X.glob = fun _ => none) (h : vcallN X n f vs = some (.c (.d (.bool true)))) (hr : RelVs (mm fun _ => none) vs us) (hl : vs.length = us.length) :
    Calls Tryd.prog f us.toArray W fun e W' => e = .returned (.bool true) ∧ Below W.heap.size W W' := by
  refine (vcallN_ok hX h (fun _ => none) W us (by rw [hg]; intro b cs h; cases h) (fun _ _ h => by cases h) hr hl).mono fun e W' hh => ?_
  obtain ⟨v', I', rfl, h1, _, _, _, h2, h3, h4, h5, h6⟩ := hh
  rw [relV_bool] at h1
  subst h1
  exact ⟨rfl, h2, h3, h4, h5, h6⟩

/-- What a call that answers 'true' and lays new memory alone owes its row. -/
theorem post_below {H : Type} {enc : TypeId × Value → H} {P : Program} {f : Func} {s : ChangeSpec} {apart fresh handsOn again : Bool} {W W' : World} {args : Array Value} {v : Value} {ds gs : List (DataW H)} {before pa pv : List MemPlace}
    (hW : DataW.Whole enc P f.params.toList s.vars apart W args.toList ds gs before)
    (hres : ∀ (b : Nat) (sp : Nat → Bool) (hd : Bool), DataW.TrodAll enc P W' b sp hd f.resultTypes.toList (v.resultList f.resultTypes.size) (s.fn H (ds ++ gs)).results [])
    (hargs : ∀ sp : Nat → Bool, (∀ p ∈ before, sp p.block = true) → DataW.TrodAll enc P W' 0 sp true f.params.toList args.toList (s.fn H (ds ++ gs)).args pa)
    (hvars : ∀ sp : Nat → Bool, (∀ p ∈ before, sp p.block = true) → DataW.TrodVars enc P W' sp s.vars (s.fn H (ds ++ gs)).vars pv)
    (hps : before = pa ++ pv) (hb : Below W.heap.size W W')
    (hok : ∀ (j : Nat) (t : TypeId) (r : Value), f.resultTypes[j]? = some t → (v.resultList f.resultTypes.size)[j]? = some r → Value.okWide P W' .any 0 t r) :
    s.post enc P f apart fresh handsOn again W args v W' := by
  have hlt : ∀ p ∈ before, p.block < W.heap.size := fun p hp => hW.lt p hp
  refine ⟨ds, gs, before, [], pa, pv, hW, hres _ _ _, hargs _ (fun p hp => by simpa using hlt p hp), hvars _ (fun p hp => by simpa using hlt p hp), hb.frame _, fun _ => ?_⟩
  obtain ⟨_, _, _, _, _, hz, hn⟩ := hW
  refine ⟨hok, _, _, ([] ++ pa) ++ pv, ⟨[] ++ pa, pv, trodAll_append (hargs _ (fun _ _ => rfl)) (hres _ _ _), hvars _ (fun _ _ => rfl), rfl, ?_, ?_⟩, ?_⟩
  · intro b off hp
    have hin : MemPlace.cell b off ∈ before := by rw [hps]; simpa using hp
    have hlb := hlt _ hin
    have := hz b off hin
    simp only [World.frozen?] at this ⊢
    rw [hb.block b (by simpa [MemPlace.block] using hlb)]
    exact this
  · intro ha
    have := hn ha
    rw [hps] at this
    simpa using this
  · intro p hp _
    rw [hps]
    simpa using hp
end Mini
end Go.Proofs.YtcilepbdddgpoaaDoor
