/-
  Functions that use a channel, in a form that the kernel runs fast.
-/
import Derived.Test.YtmcgaakbkgdljaaGreatDoorMiniR
import Derived.Test.YtmcgaakbkgdljaaGreatDoorMiniE24
namespace Go.Proofs.YtmcgaakbkgdljaaGreatDoor
namespace Mini

abbrev Xc := Env → Nat → St → Option (Ex × St)
noncomputable def execCF : I → Xc := @I.rec (fun _ => Xc)
  (fun E n s => execF .skip E n false s)
  (fun _ _ ra rb E n s => match ra E n s with
    | some (.nrm, s') => rb E n s'
    | r => r)
  (fun d o e a E n s => execF (.reg d o e a) E n false s)
  (fun d o e k a E n s => execF (.regk d o e k a) E n false s)
  (fun c _ _ ra rb E n s => match lookF E s.regs [] c with
    | .c (.d (.bool t)) => @Bool.rec (fun _ => Option (Ex × St)) (rb E n s) (ra E n s) t
    | _ => none)
  (fun id _ rb E n s => match rb E n s with
    | some (.exit id', s') => if id' = id then some (.nrm, s') else some (.exit id', s')
    | r => r)
  (fun js _ rb E n s => forceN (lenF s.heap) fun hl => iterF js hl (rb E n) n (tidyF hl js s))
  (fun id _ _ s => some (.exit id, s))
  (fun _ _ s => some (.ret, s))
  (fun _ _ _ _ _ _ _ _ _ => none)
  (fun _ _ _ _ _ _ => none)
  (fun _ _ _ => none)
  (fun js E n s => execF (.keep js) E n false s)
  (fun j o z E n s => execF (.fresh j o z) E n false s)
  (fun j o E n s => execF (.freshb j o) E n false s)
  (fun xs E _ s => (chainRun E xs s).map fun s' => (.nrm, s'))
  (fun b _ E n s => execF (.scope b) E n false s)
theorem execCF_eq (i : I) : ∀ (E : Env) (n : Nat) (s : St), execCF i E n s = execC E n i s := by
  induction i with
  | seq a b iha ihb =>
    intro E n s
    show (match execCF a E n s with
      | some (.nrm, s') => execCF b E n s'
      | r => r) = _
    simp only [execC, iha, ihb]
    rfl
  | cond c a b iha ihb =>
    intro E n s
    show (match lookF E s.regs [] c with
      | .c (.d (.bool t)) => @Bool.rec (fun _ => Option (Ex × St)) (execCF b E n s) (execCF a E n s) t
      | _ => none) = _
    simp only [execC, lookF_eq, iha, ihb]
    generalize look E s.regs [] c = v
    cases v with
    | c x =>
      cases x with
      | d y =>
        cases y with
        | bool t => cases t <;> rfl
        | _ => rfl
      | _ => rfl
    | _ => rfl
  | block id b ih =>
    intro E n s
    show (match execCF b E n s with
      | some (Ex.exit id', s') => if id' = id then some (Ex.nrm, s') else some (Ex.exit id', s')
      | r => r) = _
    simp only [execC, ih]
    rfl
  | loop js b ih =>
    intro E n s
    show (forceN (lenF s.heap) fun hl => iterF js hl (execCF b E n) n (tidyF hl js s)) = _
    simp only [execC, iterF_eq, tidyF_eq, forceN_eq, lenF_eq]
    congr 1
    funext s
    exact ih _ _ _
  | skip => exact fun E n s => execF_eq .skip E n false s
  | reg d o e a => exact fun E n s => execF_eq (.reg d o e a) E n false s
  | regk d o e k a => exact fun E n s => execF_eq (.regk d o e k a) E n false s
  | keep js => exact fun E n s => execF_eq (.keep js) E n false s
  | fresh j o z => exact fun E n s => execF_eq (.fresh j o z) E n false s
  | freshb j o => exact fun E n s => execF_eq (.freshb j o) E n false s
  | scope b _ => exact fun E n s => execF_eq (.scope b) E n false s
  | _ => exact fun _ _ _ => rfl
noncomputable def runFnCF (E : Env) (fuel : Nat) (F : Fn) (args : List V) (H : Heap) : Option (V × Heap) :=
  @Bool.rec (fun _ => Option (V × Heap)) none (match forceL (pad F.nr args) fun regs => execCF F.body E fuel ⟨regs, H⟩ with
    | some (.exit _, _) => none
    | some (_, s) => (resultsF s.regs s.heap F.res).map fun v => (v, s.heap)
    | none => none) (Nat.beq (lenF args) F.np)
theorem runFnCF_eq (E : Env) (fuel : Nat) (F : Fn) (args : List V) (H : Heap) : runFnCF E fuel F args H = runFnC E fuel F args H := by
  unfold runFnCF runFnC
  rw [forceL_eq, execCF_eq, lenF_eq]
  simp only [resultsF_eq]
  cases h : Nat.beq args.length F.np with
  | true => rw [if_pos (Nat.eq_of_beq_eq_true h)]; rfl
  | false => rw [if_neg (Nat.ne_of_beq_eq_false h)]
theorem envF_eq (X : Ctx) (n : Nat) : envF X (callF X n) = envN X n := by
  unfold envF envN
  simp only [callF_eq, deepVF_eq]
  rfl
noncomputable def withCF (X : Ctx) (n : Nat) (tab : FuncId → Option Fn) : Ctx := { X with hprim := fun f args H => match tab f with
    | some F => runFnCF (envF X (callF X n)) n F args H
    | none => X.hprim f args H }
theorem withCF_eq (X : Ctx) (n : Nat) (tab : FuncId → Option Fn) : withCF X n tab = withC X n tab := by
  unfold withCF withC
  simp only [runFnCF_eq, envF_eq]
  rfl
end Mini
end Go.Proofs.YtmcgaakbkgdljaaGreatDoor
