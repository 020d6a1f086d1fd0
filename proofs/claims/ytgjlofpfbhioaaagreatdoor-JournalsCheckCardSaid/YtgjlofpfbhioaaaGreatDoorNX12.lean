/-
  JournalsCheck: texts of the proof, part 13.
-/
import Derived.Test.YtgjlofpfbhioaaaGreatDoorNX11
namespace Go.Proofs.YtgjlofpfbhioaaaGreatDoor
namespace Mini
open Go
structure EnvLe (E E' : Env) : Prop where
  call : ∀ {f vs H r}, E.call f vs H = some r → E'.call f vs H = some r
  vcall : ∀ {f vs r}, E.vcall f vs = some r → E'.vcall f vs = some r
  prim : ∀ {f vs r}, E.prim f vs = some r → E'.prim f vs = some r
  bprim : ∀ {f s vs r}, E.bprim f s vs = some r → E'.bprim f s vs = some r
  glob : E'.glob = E.glob
variable {E E' : Env}
theorem look_le (h : EnvLe E E') (regs ts : List V) : look E' regs ts = look E regs ts := by
  funext a
  cases a with
  | g b => simp only [look, h.glob]
  | _ => rfl
theorem byValue_le {f g : List V → Option V} (h : ∀ {vs r}, f vs = some r → g vs = some r) {lk : A → V} {H : Heap} {args : List A} {r : V × Heap} (hr : byValue f lk H args = some r) : byValue g lk H args = some r := by
  unfold byValue at hr ⊢
  cases hm : mapO (fun a => deepV1 H (lk a)) args with
  | none => rw [hm] at hr; cases hr
  | some vs =>
    rw [hm] at hr
    simp only at hr ⊢
    cases hf : f vs with
    | none => rw [hf] at hr; cases hr
    | some v => rw [hf] at hr; rw [h hf]; exact hr
theorem stepE_le (h : EnvLe E E') {lk : A → V} {H : Heap} {o : O} {r : V × Heap} (hr : stepE E lk H o = some r) : stepE E' lk H o = some r := by
  cases o with
  | hc f args =>
    simp only [stepE] at hr ⊢
    cases hf : lk f with
    | c x => rw [hf] at hr; exact h.call hr
    | _ => rw [hf] at hr; cases hr
  | bc f a args =>
    simp only [stepE] at hr ⊢
    split at hr
    · rename_i id vs hid hvs
      split at hr
      · rename_i s hs
        cases hb : E.bprim f s vs with
        | none => rw [hb] at hr; cases hr
        | some p => rw [hb] at hr; rw [h.bprim hb]; exact hr
      · cases hr
    · cases hr
  | _ => exact hr
theorem step_le (h : EnvLe E E') {lk : A → V} {H : Heap} {o : O} {r : V × Heap} (hr : step E lk H o = some r) : step E' lk H o = some r := by
  cases o with
  | vc f args => exact byValue_le (fun h1 => h.vcall h1) hr
  | pc f args => exact byValue_le (fun h1 => h.prim h1) hr
  | st n a v => exact stepE_le (o := .st n a v) (lk := lk) (H := H) h hr
  | app n a v => exact stepE_le (o := .app n a v) (lk := lk) (H := H) h hr
  | apb a v => exact stepE_le (o := .apb a v) (lk := lk) (H := H) h hr
  | cpy n a v => exact stepE_le (o := .cpy n a v) (lk := lk) (H := H) h hr
  | hc f args => exact stepE_le (o := .hc f args) (lk := lk) (H := H) h hr
  | bc f a args => exact stepE_le (o := .bc f a args) (lk := lk) (H := H) h hr
  | _ => exact hr
theorem runOps_le (h : EnvLe E E') {regs : List V} : ∀ {ps : List Gp} {ts : List V} {H : Heap} {r : List V × Heap}, runOps E regs ps ts H = some r → runOps E' regs ps ts H = some r
  | [], _, _, _, hr => hr
  | p :: ps, ts, H, r, hr => by
    simp only [runOps] at hr ⊢
    cases hw : wants ts p.guard with
    | none => rw [hw] at hr; cases hr
    | some b =>
      rw [hw] at hr
      cases b with
      | false => exact runOps_le h hr
      | true =>
        simp only [look_le h] at hr ⊢
        cases hs : step E (look E regs ts) H p.op with
        | none => rw [hs] at hr; cases hr
        | some q =>
          obtain ⟨v, H'⟩ := q
          rw [hs] at hr
          rw [step_le h hs]
          exact runOps_le h hr
theorem iter_le {js : Option (List Nat)} {hl : Nat} {b b' : St → Option (Ex × St)} (h : ∀ {s r}, b s = some r → b' s = some r) : ∀ {n n' : Nat} (_ : n ≤ n') {s : St} {r : Ex × St}, iter js hl b n s = some r → iter js hl b' n' s = some r
  | 0, _, _, _, _, hr => by cases hr
  | n + 1, 0, hn, _, _, _ => absurd hn (by omega)
  | n + 1, n' + 1, hn, s, r, hr => by
    simp only [iter] at hr ⊢
    cases hb : b s with
    | none => rw [hb] at hr; cases hr
    | some q =>
      obtain ⟨e, s'⟩ := q
      rw [hb] at hr
      rw [h hb]
      cases e with
      | nrm => exact iter_le h (by omega) hr
      | _ => exact hr
theorem exec_le (h : EnvLe E E') {n n' : Nat} (hn : n ≤ n') : ∀ (i : I) {rd : Bool} {s : St} {r : Ex × St}, exec E n rd i s = some r → exec E' n' rd i s = some r := by
  intro i
  induction i with
  | seq a b iha ihb =>
    intro rd s r hr
    simp only [exec] at hr ⊢
    cases ha : exec E n rd a s with
    | none => rw [ha] at hr; cases hr
    | some q =>
      obtain ⟨e, s'⟩ := q
      rw [ha] at hr
      rw [iha ha]
      cases e with
      | nrm => exact ihb hr
      | _ => exact hr
  | reg d ops exp aps =>
    intro rd s r hr
    simp only [exec, look_le h] at hr ⊢
    cases ho : runOps E s.regs ops [] s.heap with
    | none => rw [ho] at hr; cases hr
    | some q => rw [ho] at hr; rw [runOps_le h ho]; exact hr
  | cond c a b iha ihb =>
    intro rd s r hr
    simp only [exec, look_le h] at hr ⊢
    split at hr
    · rename_i t ht
      cases t
      · exact ihb hr
      · exact iha hr
    · cases hr
  | block id b ihb =>
    intro rd s r hr
    simp only [exec] at hr ⊢
    cases hb : exec E n rd b s with
    | none => rw [hb] at hr; cases hr
    | some q => rw [hb] at hr; rw [ihb hb]; exact hr
  | loop js b ihb =>
    intro rd s r hr
    exact iter_le (fun h1 => ihb h1) hn hr
  | rf f ps asg body =>
    intro rd s r hr
    simp only [exec, look_le h] at hr ⊢
    cases rd with
    | true => exact hr
    | false =>
      simp only [Bool.false_eq_true, if_false] at hr ⊢
      split at hr
      · rename_i x hx
        split at hr
        · cases hr
        · rename_i hfn
          rw [if_neg hfn]
          cases hc : E.call x [.c (.yld s.heap.length)] (s.heap ++ [.loop true none s.regs ps asg body]) with
          | none => rw [hc] at hr; cases hr
          | some q => rw [hc] at hr; rw [h.call hc]; exact hr
      · cases hr
  | _ => exact fun hr => hr
theorem runFn_le (h : EnvLe E E') {n n' : Nat} (hn : n ≤ n') {F : Fn} {args : List V} {H : Heap} {r : V × Heap} (hr : runFn E n F args H = some r) : runFn E' n' F args H = some r := by
  unfold runFn at hr ⊢
  by_cases hl : args.length = F.np
  · rw [if_pos hl] at hr ⊢
    cases he : exec E n false F.body ⟨pad F.nr args, H⟩ with
    | none => rw [he] at hr; cases hr
    | some q => rw [he] at hr; rw [exec_le h hn _ he]; exact hr
  · rw [if_neg hl] at hr; cases hr
structure CtxLe (X Y : Ctx) : Prop where
  fns : ∀ {f F}, X.fns f = some F → Y.fns f = some F
  prim : ∀ {f vs r}, X.prim f vs = some r → Y.prim f vs = some r
  npr : ∀ {f F}, X.fns f = some F → ∀ vs, X.prim f vs = none → Y.prim f vs = none
  hprim : ∀ {f vs H r}, X.fns f = none → X.hprim f vs H = some r → Y.fns f = none ∧ Y.hprim f vs H = some r ∧ ∀ vs, X.prim f vs = none → Y.prim f vs = none
  bprim : ∀ {f s vs r}, X.bprim f s vs = some r → Y.bprim f s vs = some r
  glob : Y.glob = X.glob
theorem CtxLe.refl (X : Ctx) : CtxLe X X := ⟨fun h => h, fun h => h, fun _ _ h => h, fun h1 h2 => ⟨h1, h2, fun _ h => h⟩, fun h => h, rfl⟩
def zenv' (X : Ctx) (n : Nat) : Env := {
      call := callN X n
      vcall := fun f vs => match X.prim f vs with
        | some r => some r
        | none => match callN X n (.d (.fn f [] [])) vs [] with
          | some (r, H') => deepV H' r
          | none => none
      prim := X.prim, bprim := X.bprim, glob := X.glob }
theorem callN_le {X Y : Ctx} (h : CtxLe X Y) : ∀ {n n' : Nat} (_ : n ≤ n') {f : C} {args : List V} {H : Heap} {r : V × Heap}, callN X n f args H = some r → callN Y n' f args H = some r
  | 0, _, _, _, _, _, _, hr => by cases hr
  | n + 1, 0, hn, _, _, _, _, _ => absurd hn (by omega)
  | n + 1, n' + 1, hn, f, args, H, r, hr => by
    have hn2 : n ≤ n' := by omega
    have hE : EnvLe (zenv' X n) (zenv' Y n') := by
      refine ⟨fun h1 => callN_le h hn2 h1, ?_, fun h1 => h.prim h1, fun h1 => h.bprim h1, h.glob⟩
      intro f vs r hr
      simp only [zenv'] at hr ⊢
      cases hp : X.prim f vs with
      | some v => rw [hp] at hr; rw [h.prim hp]; exact hr
      | none =>
        rw [hp] at hr
        cases hc : callN X n (.d (.fn f [] [])) vs [] with
        | none => rw [hc] at hr; cases hr
        | some q =>
          rw [hc] at hr
          rw [callN_le h hn2 hc]
          have hy : Y.prim f vs = none := by
            cases n with
            | zero => cases hc
            | succ k =>
              simp only [callN] at hc
              cases hf : X.fns f with
              | some F => exact h.npr hf vs hp
              | none =>
                rw [hf] at hc
                exact (h.hprim hf hc).2.2 vs hp
          rw [hy]
          exact hr
    have hdef : ∀ (Z : Ctx) (k : Nat) (g : C), callN Z (k + 1) g args H = match g with
    | .d (.fn f first caps) => match Z.fns f with
      | some F => runFn (zenv' Z k) k F (first.map (fun x => .c (.d x)) ++ args ++ caps.map (fun x => .c (.d x))) H
      | none => Z.hprim f (first.map (fun x => .c (.d x)) ++ args ++ caps.map (fun x => .c (.d x))) H
    | .fn f first caps => match Z.fns f with
      | some F => runFn (zenv' Z k) k F (first.map .c ++ args ++ caps.map .c) H
      | none => Z.hprim f (first.map .c ++ args ++ caps.map .c) H
    | .yld id => match ob? H id with
      | some (.loop true none regs ps asg body) =>
        if args.length = ps.length then
          match exec (zenv' Z k) k true asg ⟨putAll regs ps args, H⟩ with
          | some (.nrm, s) =>
            match ob? s.heap id with
            | some (.loop true none regs1 ps1 asg1 body1) =>
              match exec (zenv' Z k) k true body ⟨s.regs, setOb s.heap id (.loop false none regs1 ps1 asg1 body1)⟩ with
              | some (e, s') =>
                match ob? s'.heap id with
                | some (.loop false none regs2 ps2 asg2 body2) =>
                  some (.c (.d (.bool (e == .nrm))), setOb s'.heap id (.loop (e == .nrm) (if e == .nrm then none else some e) regs2 ps2 asg2 body2))
                | _ => none
              | none => none
            | _ => none
          | _ => none
        else none
      | _ => none
    | _ => none := fun _ _ _ => rfl
    rw [hdef] at hr ⊢
    cases f with
    | d x =>
      cases x with
      | fn f first caps =>
        simp only at hr ⊢
        cases hf : X.fns f with
        | some F => rw [hf] at hr; rw [h.fns hf]; exact runFn_le hE hn2 hr
        | none => rw [hf] at hr; obtain ⟨h1, h2, _⟩ := h.hprim hf hr; rw [h1]; exact h2
      | _ => cases hr
    | fn f first caps =>
      simp only at hr ⊢
      cases hf : X.fns f with
      | some F => rw [hf] at hr; rw [h.fns hf]; exact runFn_le hE hn2 hr
      | none => rw [hf] at hr; obtain ⟨h1, h2, _⟩ := h.hprim hf hr; rw [h1]; exact h2
    | yld id =>
      simp only at hr ⊢
      split at hr
      · rename_i regs ps asg body hob
        by_cases hl : args.length = ps.length
        · rw [if_pos hl] at hr ⊢
          split at hr
          · rename_i s hs
            rw [exec_le hE hn2 _ hs]
            simp only
            split at hr
            · rename_i regs1 ps1 asg1 body1 hob1
              split at hr
              · rename_i e s' hs'
                rw [exec_le hE hn2 _ hs']
                exact hr
              · cases hr
            · cases hr
          · cases hr
        · rw [if_neg hl] at hr; cases hr
      · cases hr
    | _ => cases hr
theorem vcallN_le {X Y : Ctx} (h : CtxLe X Y) {n n' : Nat} (hn : n ≤ n') {f : FuncId} {vs : List V} {r : V} (hr : vcallN X n f vs = some r) : vcallN Y n' f vs = some r := by
  unfold vcallN at hr ⊢
  cases hc : callN X n (.d (.fn f [] [])) vs [] with
  | none => rw [hc] at hr; cases hr
  | some q => rw [hc] at hr; rw [callN_le h hn hc]; exact hr
end Mini
end Go.Proofs.YtgjlofpfbhioaaaGreatDoor
namespace Go.Proofs.YtgjlofpfbhioaaaGreatDoor
namespace Mini
def fn19L0 : I := .seq (.reg false [⟨none, .bin .lss (.r 9) (.r 8)⟩] [(10, 0)] []) ( .seq (.cond (.r 10) ( .skip) ( .exit 0)) ( .seq (.block 1 ( .seq (.reg false [⟨none, .mov (.r 9)⟩, ⟨none, .ixa 17 (.r 7) (.r 9)⟩, ⟨none, .ld true 17 (.l 0)⟩, ⟨none, .pre⟩, ⟨none, .mov (.l 3)⟩, ⟨none, .ini 17 (.l 2)⟩] [(2, 1), (3, 0)] []) ( .seq (.seq (.reg false [⟨none, .ld true 17 (.r 3)⟩, ⟨none, .vc 53 [(.l 0)]⟩, ⟨none, .mov (.l 0)⟩] [(4, 0)] []) ( .seq (.reg false [⟨none, .mov (.r 4)⟩, ⟨none, .bin .neq (.l 0) (.v (.c (.d (.int .i64 0))))⟩] [(11, 0)] []) ( .cond (.r 11) ( .seq (.reg false [⟨none, .mov (.r 4)⟩, ⟨none, .mov (.l 0)⟩] [(1, 0)] []) ( .ret)) ( .skip)))) ( .seq (.seq (.reg false [⟨none, .mov (.r 2)⟩, ⟨none, .bin .eql (.l 0) (.v (.c (.d (.int .i64 0))))⟩] [(12, 0)] []) ( .cond (.r 12) ( .exit 1) ( .skip))) ( .seq (.reg true [⟨none, .mov (.r 0)⟩, ⟨none, .mov (.r 2)⟩, ⟨none, .bin .sub (.l 0) (.v (.c (.d (.int .i64 1))))⟩, ⟨none, .ixa 17 (.l 2) (.l 0)⟩, ⟨none, .ld true 17 (.l 0)⟩, ⟨none, .ld true 17 (.r 3)⟩, ⟨none, .vc 54 [(.l 1), (.l 0)]⟩, ⟨none, .mov (.l 0)⟩] [(5, 0)] []) ( .block 2 ( .seq (.reg false [⟨none, .mov (.r 5)⟩, ⟨none, .bin .eql (.l 0) (.v (.c (.d (.int .i64 0))))⟩, ⟨none, .mov (.l 0)⟩] [(13, 0)] []) ( .cond (.r 13) ( .seq (.reg false [⟨none, .mov (.v (.c (.d (.int .i64 14))))⟩] [(1, 0)] []) ( .ret)) ( .seq (.reg false [⟨none, .mov (.r 5)⟩, ⟨none, .bin .gtr (.l 0) (.v (.c (.d (.int .i64 0))))⟩, ⟨none, .mov (.l 0)⟩] [(14, 0)] []) ( .cond (.r 14) ( .seq (.reg false [⟨none, .mov (.v (.c (.d (.int .i64 13))))⟩] [(1, 0)] []) ( .ret)) ( .skip))))))))))) ( .reg false [⟨none, .bin .add (.r 9) (.v (.c (.d (.int .i64 1))))⟩, ⟨none, .mov (.l 0)⟩] [(9, 0)] [])))
def fn19' : Fn := ⟨1, 15, [0, 2, 3, 4, 5, 6, 9, 10, 11, 12, 13, 20, 23, 31, 34], [.r 1], .seq (.reg false [⟨none, .mov (.v (.c (.d (.int .i64 0))))⟩] [(1, 0)] []) ( .seq (.seq (.reg false [⟨none, .mov (.r 0)⟩, ⟨none, .len (.l 0)⟩, ⟨none, .bin .gtr (.l 0) (.v (.c (.d (.int .i64 256))))⟩] [(6, 0)] []) ( .cond (.r 6) ( .seq (.reg false [⟨none, .mov (.v (.c (.d (.int .i64 3))))⟩] [(1, 0)] []) ( .ret)) ( .skip))) ( .seq (.seq (.reg false [⟨none, .mov (.r 0)⟩, ⟨none, .len (.l 0)⟩, ⟨none, .mov (.v (.c (.d (.int .i64 0))))⟩] [(7, 2), (8, 1), (9, 0)] []) ( .block 0 ( .loop (some [0, 7, 8, 9]) fn19L0))) ( .seq (.reg false [⟨none, .mov (.v (.c (.d (.int .i64 0))))⟩] [(1, 0)] []) ( .ret))))⟩
def fn19 : Fn := fn19'
def fn20L0 : I := .seq (.seq (.reg false [⟨none, .mov (.r 3)⟩, ⟨none, .mov (.r 0)⟩, ⟨none, .len (.l 0)⟩, ⟨none, .bin .lss (.l 2) (.l 0)⟩] [(5, 0)] []) ( .cond (.r 5) ( .skip) ( .exit 0))) ( .seq (.block 1 ( .seq (.reg true [⟨none, .mov (.r 0)⟩, ⟨none, .mov (.r 3)⟩, ⟨none, .ixa 17 (.l 1) (.l 0)⟩, ⟨none, .ld true 17 (.l 0)⟩, ⟨none, .mov (.r 1)⟩, ⟨none, .mov (.r 3)⟩, ⟨none, .ixa 17 (.l 1) (.l 0)⟩, ⟨none, .ld true 17 (.l 0)⟩, ⟨none, .eqa true 17 (.l 4) (.l 0)⟩] [(6, 0)] []) ( .cond (.r 6) ( .seq (.reg false [⟨none, .mov (.v (.c (.d (.int .i64 0))))⟩] [(2, 0)] []) ( .ret)) ( .skip)))) ( .reg false [⟨none, .mov (.r 3)⟩, ⟨none, .bin .add (.l 0) (.v (.c (.d (.int .i64 1))))⟩, ⟨none, .mov (.l 0)⟩] [(3, 0)] []))
def fn20' : Fn := ⟨2, 7, [0, 1, 4, 5, 10, 14, 25], [.r 2], .seq (.reg false [⟨none, .mov (.v (.c (.d (.int .i64 0))))⟩] [(2, 0)] []) ( .seq (.seq (.reg false [⟨none, .mov (.r 0)⟩, ⟨none, .len (.l 0)⟩, ⟨none, .mov (.r 1)⟩, ⟨none, .len (.l 0)⟩, ⟨none, .bin .neq (.l 2) (.l 0)⟩] [(4, 0)] []) ( .cond (.r 4) ( .seq (.reg false [⟨none, .mov (.v (.c (.d (.int .i64 0))))⟩] [(2, 0)] []) ( .ret)) ( .skip))) ( .seq (.seq (.reg false [⟨none, .mov (.v (.c (.d (.int .i64 0))))⟩] [(3, 0)] []) ( .block 0 ( .loop (some [0, 1, 3]) fn20L0))) ( .seq (.reg false [⟨none, .mov (.v (.c (.d (.int .i64 1))))⟩] [(2, 0)] []) ( .ret))))⟩
def fn20 : Fn := fn20'
def fn33' : Fn := ⟨1, 7, [0, 1, 2, 3, 7, 12, 17], [.r 2], .seq (.reg false [⟨none, .box (.r 0)⟩, ⟨none, .mov (.v (.c (.d (.int .i64 0))))⟩] [(1, 1), (2, 0)] []) ( .seq (.seq (.reg false [⟨none, .fa 0 (.r 1)⟩, ⟨none, .ld false 1 (.l 0)⟩, ⟨none, .vc 70 [(.l 0)]⟩, ⟨none, .un .not (.l 0)⟩] [(4, 0)] []) ( .cond (.r 4) ( .seq (.reg false [⟨none, .mov (.v (.c (.d (.int .i64 18))))⟩] [(2, 0)] []) ( .ret)) ( .skip))) ( .seq (.seq (.reg false [⟨none, .fa 1 (.r 1)⟩, ⟨none, .ld false 1 (.l 0)⟩, ⟨none, .vc 19 [(.l 0)]⟩, ⟨none, .mov (.l 0)⟩] [(3, 0)] []) ( .seq (.reg false [⟨none, .mov (.r 3)⟩, ⟨none, .bin .neq (.l 0) (.v (.c (.d (.int .i64 0))))⟩] [(5, 0)] []) ( .cond (.r 5) ( .seq (.reg false [⟨none, .mov (.r 3)⟩, ⟨none, .mov (.l 0)⟩] [(2, 0)] []) ( .ret)) ( .skip)))) ( .seq (.seq (.reg false [⟨none, .fa 1 (.r 1)⟩, ⟨none, .ld false 1 (.l 0)⟩, ⟨none, .len (.l 0)⟩, ⟨none, .bin .eql (.l 0) (.v (.c (.d (.int .i64 0))))⟩] [(6, 0)] []) ( .cond (.r 6) ( .seq (.reg false [⟨none, .mov (.v (.c (.d (.int .i64 17))))⟩] [(2, 0)] []) ( .ret)) ( .skip))) ( .seq (.reg false [⟨none, .mov (.v (.c (.d (.int .i64 0))))⟩] [(2, 0)] []) ( .ret)))))⟩
def fn33 : Fn := fn33'
def fn53L0 : I := .seq (.reg false [⟨none, .bin .lss (.r 8) (.r 7)⟩] [(9, 0)] []) ( .seq (.cond (.r 9) ( .skip) ( .exit 0)) ( .seq (.block 1 ( .seq (.reg false [⟨none, .ixa 1 (.r 6) (.r 8)⟩, ⟨none, .ld false 1 (.l 0)⟩, ⟨none, .mov (.l 0)⟩] [(3, 0)] []) ( .seq (.reg false [⟨none, .mov (.r 3)⟩, ⟨none, .bin .neq (.l 0) (.v (.c (.d (.int .u32 0))))⟩] [(10, 0)] []) ( .cond (.r 10) ( .seq (.reg false [⟨none, .mov (.v (.c (.d (.int .i64 1))))⟩] [(2, 0)] []) ( .ret)) ( .skip))))) ( .reg false [⟨none, .bin .add (.r 8) (.v (.c (.d (.int .i64 1))))⟩, ⟨none, .mov (.l 0)⟩] [(8, 0)] [])))
def fn53' : Fn := ⟨1, 11, [0, 1, 2, 4, 18, 34, 38, 39, 40, 41, 45], [.r 2], .seq (.reg false [⟨none, .box (.r 0)⟩, ⟨none, .mov (.v (.c (.d (.int .i64 0))))⟩] [(1, 1), (2, 0)] []) ( .seq (.seq (.reg false [⟨none, .fa 0 (.r 1)⟩, ⟨none, .ld false 1 (.l 0)⟩, ⟨none, .bin .lss (.l 0) (.v (.c (.d (.int .u8 2))))⟩, ⟨none, .mov (.l 0)⟩, ⟨some (0, false), .fa 0 (.r 1)⟩, ⟨some (1, false), .ld false 1 (.l 0)⟩, ⟨some (2, false), .bin .gtr (.l 0) (.v (.c (.d (.int .u8 16))))⟩, ⟨none, .pick (.l 3) (.v (.c (.d (.bool true)))) (.l 0)⟩, ⟨none, .mov (.l 0)⟩, ⟨some (0, false), .fa 1 (.r 1)⟩, ⟨some (1, false), .ixp 16 1 (.l 0) (.v (.c (.d (.int .i64 0))))⟩, ⟨some (2, false), .ld false 1 (.l 0)⟩, ⟨some (3, false), .bin .gtr (.l 0) (.v (.c (.d (.int .u32 2))))⟩, ⟨none, .pick (.l 4) (.v (.c (.d (.bool true)))) (.l 0)⟩] [(4, 0)] []) ( .cond (.r 4) ( .seq (.reg false [⟨none, .mov (.v (.c (.d (.int .i64 1))))⟩] [(2, 0)] []) ( .ret)) ( .skip))) ( .seq (.seq (.reg false [⟨none, .fa 1 (.r 1)⟩, ⟨none, .ixp 16 1 (.l 0) (.v (.c (.d (.int .i64 0))))⟩, ⟨none, .ld false 1 (.l 0)⟩, ⟨none, .bin .lss (.l 0) (.v (.c (.d (.int .u32 2))))⟩, ⟨none, .mov (.l 0)⟩, ⟨some (0, true), .fa 1 (.r 1)⟩, ⟨some (1, true), .ixp 16 1 (.l 0) (.v (.c (.d (.int .i64 1))))⟩, ⟨some (2, true), .ld false 1 (.l 0)⟩, ⟨some (3, true), .bin .gtr (.l 0) (.v (.c (.d (.int .u32 39))))⟩, ⟨none, .pick (.l 4) (.l 0) (.v (.c (.d (.bool false))))⟩, ⟨none, .mov (.l 0)⟩, ⟨some (0, false), .fa 1 (.r 1)⟩, ⟨some (1, false), .ixp 16 1 (.l 0) (.v (.c (.d (.int .i64 1))))⟩, ⟨some (2, false), .ld false 1 (.l 0)⟩, ⟨some (3, false), .bin .gtr (.l 0) (.v (.c (.d (.int .u32 4294967215))))⟩, ⟨none, .pick (.l 4) (.v (.c (.d (.bool true)))) (.l 0)⟩] [(5, 0)] []) ( .cond (.r 5) ( .seq (.reg false [⟨none, .mov (.v (.c (.d (.int .i64 1))))⟩] [(2, 0)] []) ( .ret)) ( .skip))) ( .seq (.seq (.reg false [⟨none, .fa 1 (.r 1)⟩, ⟨none, .fa 0 (.r 1)⟩, ⟨none, .ld false 1 (.l 0)⟩, ⟨none, .slp 16 1 (.l 2) (some (.l 0)) none none⟩, ⟨none, .len (.l 0)⟩, ⟨none, .mov (.v (.c (.d (.int .i64 0))))⟩] [(6, 2), (7, 1), (8, 0)] []) ( .block 0 ( .loop (some [6, 7, 8]) fn53L0))) ( .seq (.reg false [⟨none, .mov (.v (.c (.d (.int .i64 0))))⟩] [(2, 0)] []) ( .ret)))))⟩
def fn53 : Fn := fn53'
theorem fn53_is : fn53 = fn53' := rfl
def fn54' : Fn := ⟨2, 5, [0, 1, 2, 3, 4], [.r 4], .seq (.reg false [⟨none, .box (.r 0)⟩, ⟨none, .box (.r 1)⟩, ⟨none, .mov (.v (.c (.d (.int .i64 0))))⟩] [(2, 2), (3, 1), (4, 0)] []) ( .seq (.reg false [⟨none, .hc (.v (.c (.d (.fn 86 [] [])))) [(.r 2)]⟩, ⟨none, .hc (.v (.c (.d (.fn 86 [] [])))) [(.r 3)]⟩, ⟨none, .vc 85 [(.l 1), (.l 0)]⟩, ⟨none, .mov (.l 0)⟩] [(4, 0)] []) ( .ret))⟩
def fn54 : Fn := fn54'
def fn56L0 : I := .seq (.seq (.reg false [⟨none, .mov (.r 2)⟩, ⟨none, .mov (.r 0)⟩, ⟨none, .lns (.l 0)⟩, ⟨none, .bin .lss (.l 2) (.l 0)⟩] [(6, 0)] []) ( .cond (.r 6) ( .skip) ( .exit 0))) ( .seq (.block 1 ( .seq (.reg false [⟨none, .mov (.r 0)⟩, ⟨none, .mov (.r 2)⟩, ⟨none, .ixs (.l 1) (.l 0)⟩, ⟨none, .bin .geq (.l 0) (.v (.c (.d (.int .u8 97))))⟩, ⟨none, .mov (.l 0)⟩, ⟨some (0, true), .mov (.r 0)⟩, ⟨some (1, true), .mov (.r 2)⟩, ⟨some (2, true), .ixs (.l 1) (.l 0)⟩, ⟨some (3, true), .bin .leq (.l 0) (.v (.c (.d (.int .u8 122))))⟩, ⟨none, .pick (.l 4) (.l 0) (.v (.c (.d (.bool false))))⟩, ⟨none, .mov (.l 0)⟩] [(3, 0)] []) ( .seq (.reg false [⟨none, .mov (.r 0)⟩, ⟨none, .mov (.r 2)⟩, ⟨none, .ixs (.l 1) (.l 0)⟩, ⟨none, .bin .geq (.l 0) (.v (.c (.d (.int .u8 48))))⟩, ⟨none, .mov (.l 0)⟩, ⟨some (0, true), .mov (.r 0)⟩, ⟨some (1, true), .mov (.r 2)⟩, ⟨some (2, true), .ixs (.l 1) (.l 0)⟩, ⟨some (3, true), .bin .leq (.l 0) (.v (.c (.d (.int .u8 57))))⟩, ⟨none, .pick (.l 4) (.l 0) (.v (.c (.d (.bool false))))⟩, ⟨none, .mov (.l 0)⟩] [(4, 0)] []) ( .seq (.reg false [⟨none, .mov (.r 3)⟩, ⟨none, .un .not (.l 0)⟩, ⟨none, .mov (.l 0)⟩, ⟨some (0, true), .mov (.r 4)⟩, ⟨some (1, true), .un .not (.l 0)⟩, ⟨none, .pick (.l 2) (.l 0) (.v (.c (.d (.bool false))))⟩, ⟨none, .mov (.l 0)⟩, ⟨some (0, true), .mov (.r 0)⟩, ⟨some (1, true), .mov (.r 2)⟩, ⟨some (2, true), .ixs (.l 1) (.l 0)⟩, ⟨some (3, true), .bin .neq (.l 0) (.v (.c (.d (.int .u8 45))))⟩, ⟨none, .pick (.l 4) (.l 0) (.v (.c (.d (.bool false))))⟩] [(7, 0)] []) ( .cond (.r 7) ( .seq (.reg false [⟨none, .mov (.v (.c (.d (.bool false))))⟩] [(1, 0)] []) ( .ret)) ( .skip)))))) ( .reg false [⟨none, .mov (.r 2)⟩, ⟨none, .bin .add (.l 0) (.v (.c (.d (.int .i64 1))))⟩, ⟨none, .mov (.l 0)⟩] [(2, 0)] []))
def fn56' : Fn := ⟨1, 8, [0, 2, 3, 4, 5, 23, 27, 61], [.r 1], .seq (.reg false [⟨none, .mov (.v (.c (.d (.bool false))))⟩] [(1, 0)] []) ( .seq (.seq (.reg false [⟨none, .mov (.r 0)⟩, ⟨none, .lns (.l 0)⟩, ⟨none, .bin .lss (.l 0) (.v (.c (.d (.int .i64 1))))⟩, ⟨none, .mov (.l 0)⟩, ⟨some (0, false), .mov (.r 0)⟩, ⟨some (1, false), .lns (.l 0)⟩, ⟨some (2, false), .bin .gtr (.l 0) (.v (.c (.d (.int .i64 32))))⟩, ⟨none, .pick (.l 3) (.v (.c (.d (.bool true)))) (.l 0)⟩, ⟨none, .mov (.l 0)⟩, ⟨some (0, false), .mov (.r 0)⟩, ⟨some (1, false), .ixs (.l 0) (.v (.c (.d (.int .i64 0))))⟩, ⟨some (2, false), .bin .lss (.l 0) (.v (.c (.d (.int .u8 97))))⟩, ⟨none, .pick (.l 3) (.v (.c (.d (.bool true)))) (.l 0)⟩, ⟨none, .mov (.l 0)⟩, ⟨some (0, false), .mov (.r 0)⟩, ⟨some (1, false), .ixs (.l 0) (.v (.c (.d (.int .i64 0))))⟩, ⟨some (2, false), .bin .gtr (.l 0) (.v (.c (.d (.int .u8 122))))⟩, ⟨none, .pick (.l 3) (.v (.c (.d (.bool true)))) (.l 0)⟩] [(5, 0)] []) ( .cond (.r 5) ( .seq (.reg false [⟨none, .mov (.v (.c (.d (.bool false))))⟩] [(1, 0)] []) ( .ret)) ( .skip))) ( .seq (.seq (.reg false [⟨none, .mov (.v (.c (.d (.int .i64 0))))⟩] [(2, 0)] []) ( .block 0 ( .loop (some [0, 2]) fn56L0))) ( .seq (.reg false [⟨none, .mov (.v (.c (.d (.bool true))))⟩] [(1, 0)] []) ( .ret))))⟩
def fn56 : Fn := fn56'
def fn58L0 : I := .seq (.seq (.reg false [⟨none, .mov (.r 4)⟩, ⟨none, .fa 0 (.r 1)⟩, ⟨none, .ld false 1 (.l 0)⟩, ⟨none, .cvi .i64 (.l 0)⟩, ⟨none, .bin .lss (.l 3) (.l 0)⟩] [(5, 0)] []) ( .cond (.r 5) ( .skip) ( .exit 0))) ( .seq (.block 1 ( .seq (.seq (.reg false [⟨none, .mov (.r 4)⟩, ⟨none, .bin .gtr (.l 0) (.v (.c (.d (.int .i64 0))))⟩] [(6, 0)] []) ( .cond (.r 6) ( .reg false [⟨none, .mov (.r 3)⟩, ⟨none, .bin .add (.l 0) (.v (.c (.d (.str [46]))))⟩, ⟨none, .mov (.l 0)⟩] [(3, 0)] []) ( .skip))) ( .reg false [⟨none, .mov (.r 3)⟩, ⟨none, .mov (.r 4)⟩, ⟨none, .fa 1 (.r 1)⟩, ⟨none, .ixp 16 1 (.l 0) (.l 1)⟩, ⟨none, .ld false 1 (.l 0)⟩, ⟨none, .vc 87 [(.l 0)]⟩, ⟨none, .bin .add (.l 5) (.l 0)⟩, ⟨none, .mov (.l 0)⟩] [(3, 0)] []))) ( .reg false [⟨none, .mov (.r 4)⟩, ⟨none, .bin .add (.l 0) (.v (.c (.d (.int .i64 1))))⟩, ⟨none, .mov (.l 0)⟩] [(4, 0)] []))
def fn58' : Fn := ⟨1, 7, [0, 1, 2, 3, 4, 9, 13], [.r 2], .seq (.reg false [⟨none, .box (.r 0)⟩, ⟨none, .mov (.v (.c (.d (.str []))))⟩] [(1, 1), (2, 0)] []) ( .seq (.reg false [⟨none, .mov (.v (.c (.d (.str []))))⟩] [(3, 0)] []) ( .seq (.seq (.reg false [⟨none, .mov (.v (.c (.d (.int .i64 0))))⟩] [(4, 0)] []) ( .block 0 ( .loop (some [1, 3, 4]) fn58L0))) ( .seq (.reg false [⟨none, .mov (.r 3)⟩, ⟨none, .mov (.l 0)⟩] [(2, 0)] []) ( .ret))))⟩
def fn58 : Fn := fn58'
def fn61L0 : I := .seq (.reg false [⟨none, .bin .lss (.r 9) (.r 8)⟩] [(10, 0)] []) ( .seq (.cond (.r 10) ( .skip) ( .exit 0)) ( .seq (.block 1 ( .seq (.reg false [⟨none, .mov (.r 9)⟩, ⟨none, .ixa 1 (.r 7) (.r 9)⟩, ⟨none, .ld false 1 (.l 0)⟩, ⟨none, .mov (.l 2)⟩, ⟨none, .mov (.l 1)⟩] [(4, 1), (5, 0)] []) ( .reg false [⟨none, .mov (.r 3)⟩, ⟨none, .mov (.r 4)⟩, ⟨none, .mov (.r 5)⟩, ⟨none, .cvi .u64 (.l 0)⟩, ⟨none, .vc 89 [(.l 0), (.v (.c (.d (.int .i64 10))))]⟩, ⟨none, .ixa 1 (.l 4) (.l 3)⟩, ⟨none, .st 1 (.l 0) (.l 1)⟩] [] []))) ( .reg false [⟨none, .bin .add (.r 9) (.v (.c (.d (.int .i64 1))))⟩, ⟨none, .mov (.l 0)⟩] [(9, 0)] [])))
def fn61' : Fn := ⟨1, 11, [0, 1, 2, 3, 4, 5, 8, 12, 13, 14, 15], [.r 2], .seq (.reg false [⟨none, .box (.r 0)⟩, ⟨none, .mov (.v (.c (.d (.str []))))⟩] [(1, 1), (2, 0)] []) ( .seq (.seq (.reg false [⟨none, .ld true 17 (.r 1)⟩, ⟨none, .vc 53 [(.l 0)]⟩, ⟨none, .bin .neq (.l 0) (.v (.c (.d (.int .i64 0))))⟩] [(6, 0)] []) ( .cond (.r 6) ( .seq (.reg false [⟨none, .mov (.v (.c (.d (.str [63]))))⟩] [(2, 0)] []) ( .ret)) ( .skip))) ( .seq (.reg false [⟨none, .fa 0 (.r 1)⟩, ⟨none, .ld false 1 (.l 0)⟩, ⟨none, .mks 1 16 [.str []] (.l 0) (.l 0)⟩, ⟨none, .mov (.l 0)⟩] [(3, 0)] []) ( .seq (.seq (.reg false [⟨none, .hc (.v (.c (.d (.fn 86 [] [])))) [(.r 1)]⟩, ⟨none, .len (.l 0)⟩, ⟨none, .mov (.v (.c (.d (.int .i64 0))))⟩] [(7, 2), (8, 1), (9, 0)] []) ( .block 0 ( .loop (some [3, 7, 8, 9]) fn61L0))) ( .seq (.reg false [⟨none, .mov (.r 3)⟩, ⟨none, .pc 90 [(.l 0), (.v (.c (.d (.str [46]))))]⟩, ⟨none, .mov (.l 0)⟩] [(2, 0)] []) ( .ret)))))⟩
def fn61 : Fn := fn61'
def fn70L0 : I := .seq (.reg false [⟨none, .bin .lss (.r 6) (.r 5)⟩] [(7, 0)] []) ( .seq (.cond (.r 7) ( .skip) ( .exit 0)) ( .seq (.block 1 ( .seq (.reg false [⟨none, .mov (.r 6)⟩, ⟨none, .mov (.l 0)⟩] [(2, 0)] []) ( .seq (.reg true [⟨none, .mov (.r 0)⟩, ⟨none, .mov (.r 2)⟩, ⟨none, .ixs (.l 1) (.l 0)⟩, ⟨none, .bin .geq (.l 0) (.v (.c (.d (.int .u8 97))))⟩, ⟨none, .mov (.l 0)⟩, ⟨some (0, true), .mov (.r 0)⟩, ⟨some (1, true), .mov (.r 2)⟩, ⟨some (2, true), .ixs (.l 1) (.l 0)⟩, ⟨some (3, true), .bin .leq (.l 0) (.v (.c (.d (.int .u8 122))))⟩, ⟨none, .pick (.l 4) (.l 0) (.v (.c (.d (.bool false))))⟩, ⟨none, .mov (.r 0)⟩, ⟨none, .mov (.r 2)⟩, ⟨none, .ixs (.l 1) (.l 0)⟩, ⟨none, .bin .geq (.l 0) (.v (.c (.d (.int .u8 48))))⟩, ⟨none, .mov (.l 0)⟩, ⟨some (0, true), .mov (.r 0)⟩, ⟨some (1, true), .mov (.r 2)⟩, ⟨some (2, true), .ixs (.l 1) (.l 0)⟩, ⟨some (3, true), .bin .leq (.l 0) (.v (.c (.d (.int .u8 57))))⟩, ⟨none, .pick (.l 4) (.l 0) (.v (.c (.d (.bool false))))⟩, ⟨none, .mov (.l 10)⟩, ⟨none, .mov (.l 1)⟩] [(3, 1), (4, 0)] []) ( .seq (.reg false [⟨none, .mov (.r 3)⟩, ⟨none, .un .not (.l 0)⟩, ⟨none, .mov (.l 0)⟩, ⟨some (0, true), .mov (.r 2)⟩, ⟨some (1, true), .bin .eql (.l 0) (.v (.c (.d (.int .i64 0))))⟩, ⟨some (2, true), .mov (.l 0)⟩, ⟨some (0, false), .mov (.r 4)⟩, ⟨some (1, false), .un .not (.l 0)⟩, ⟨some (2, false), .mov (.l 0)⟩, ⟨some (0, true), .mov (.r 0)⟩, ⟨some (1, true), .mov (.r 2)⟩, ⟨some (2, true), .ixs (.l 1) (.l 0)⟩, ⟨some (3, true), .bin .neq (.l 0) (.v (.c (.d (.int .u8 45))))⟩, ⟨some (7, false), .pick (.l 4) (.l 0) (.v (.c (.d (.bool false))))⟩, ⟨some (11, true), .pick (.l 8) (.v (.c (.d (.bool true)))) (.l 0)⟩, ⟨none, .pick (.l 12) (.l 0) (.v (.c (.d (.bool false))))⟩] [(8, 0)] []) ( .cond (.r 8) ( .seq (.reg false [⟨none, .mov (.v (.c (.d (.bool false))))⟩] [(1, 0)] []) ( .ret)) ( .skip)))))) ( .reg false [⟨none, .bin .add (.r 6) (.v (.c (.d (.int .i64 1))))⟩, ⟨none, .mov (.l 0)⟩] [(6, 0)] [])))
def fn70' : Fn := ⟨1, 9, [0, 2, 3, 4, 5, 7, 8, 9, 46], [.r 1], .seq (.reg false [⟨none, .mov (.v (.c (.d (.bool false))))⟩] [(1, 0)] []) ( .seq (.seq (.reg false [⟨none, .mov (.r 0)⟩, ⟨none, .lns (.l 0)⟩, ⟨none, .mov (.v (.c (.d (.int .i64 0))))⟩] [(5, 1), (6, 0)] []) ( .block 0 ( .loop (some [0, 5, 6]) fn70L0))) ( .seq (.reg false [⟨none, .mov (.r 0)⟩, ⟨none, .lns (.l 0)⟩, ⟨none, .bin .gtr (.l 0) (.v (.c (.d (.int .i64 0))))⟩, ⟨none, .mov (.l 0)⟩, ⟨some (0, true), .mov (.r 0)⟩, ⟨some (1, true), .lns (.l 0)⟩, ⟨some (2, true), .bin .leq (.l 0) (.v (.c (.d (.int .i64 32))))⟩, ⟨none, .pick (.l 3) (.l 0) (.v (.c (.d (.bool false))))⟩, ⟨none, .mov (.l 0)⟩] [(1, 0)] []) ( .ret)))⟩
def fn70 : Fn := fn70'
def fn83 : Fn := ⟨0, 1, [0], [.cell 0 17 true], .seq (.reg false [⟨none, .new [.int .u8 0, .int .u32 0, .int .u32 0, .int .u32 0, .int .u32 0, .int .u32 0, .int .u32 0, .int .u32 0, .int .u32 0, .int .u32 0, .int .u32 0, .int .u32 0, .int .u32 0, .int .u32 0, .int .u32 0, .int .u32 0, .int .u32 0]⟩] [(0, 0)] []) ( .seq (.reg false [⟨none, .bsl 5 1 [.int .u32 0] [(0, 1, (.v (.c (.d (.int .u32 2))))), (1, 1, (.v (.c (.d (.int .u32 5))))), (2, 1, (.v (.c (.d (.int .u32 29))))), (3, 1, (.v (.c (.d (.int .u32 32))))), (4, 1, (.v (.c (.d (.int .u32 0)))))]⟩, ⟨none, .vc 107 [(.l 0)]⟩, ⟨none, .st 17 (.r 0) (.l 0)⟩] [] []) ( .ret))⟩
def fn85L0 : I := .seq (.reg false [⟨none, .bin .lss (.r 9) (.r 8)⟩] [(10, 0)] []) ( .seq (.cond (.r 10) ( .skip) ( .exit 0)) ( .seq (.block 1 ( .seq (.reg false [⟨none, .mov (.r 9)⟩, ⟨none, .ixa 1 (.r 7) (.r 9)⟩, ⟨none, .ld false 1 (.l 0)⟩, ⟨none, .mov (.l 2)⟩, ⟨none, .mov (.l 1)⟩] [(3, 1), (4, 0)] []) ( .seq (.seq (.reg false [⟨none, .mov (.r 3)⟩, ⟨none, .mov (.r 1)⟩, ⟨none, .len (.l 0)⟩, ⟨none, .bin .geq (.l 2) (.l 0)⟩] [(11, 0)] []) ( .cond (.r 11) ( .seq (.reg false [⟨none, .mov (.v (.c (.d (.int .i64 1))))⟩] [(2, 0)] []) ( .ret)) ( .skip))) ( .seq (.reg false [⟨none, .mov (.r 1)⟩, ⟨none, .mov (.r 3)⟩, ⟨none, .ixa 1 (.l 1) (.l 0)⟩, ⟨none, .ld false 1 (.l 0)⟩, ⟨none, .mov (.l 0)⟩] [(5, 0)] []) ( .seq (.reg false [⟨none, .mov (.r 4)⟩, ⟨none, .mov (.r 5)⟩, ⟨none, .vc 109 [(.l 1), (.l 0)]⟩, ⟨none, .mov (.l 0)⟩] [(6, 0)] []) ( .seq (.reg false [⟨none, .mov (.r 6)⟩, ⟨none, .bin .neq (.l 0) (.v (.c (.d (.int .i64 0))))⟩] [(12, 0)] []) ( .cond (.r 12) ( .seq (.reg false [⟨none, .mov (.r 6)⟩, ⟨none, .mov (.l 0)⟩] [(2, 0)] []) ( .ret)) ( .skip)))))))) ( .reg false [⟨none, .bin .add (.r 9) (.v (.c (.d (.int .i64 1))))⟩, ⟨none, .mov (.l 0)⟩] [(9, 0)] [])))
def fn85' : Fn := ⟨2, 14, [0, 1, 4, 5, 6, 7, 8, 9, 10, 11, 12, 19, 28, 35], [.r 2], .seq (.reg false [⟨none, .mov (.v (.c (.d (.int .i64 0))))⟩] [(2, 0)] []) ( .seq (.seq (.reg false [⟨none, .mov (.r 0)⟩, ⟨none, .len (.l 0)⟩, ⟨none, .mov (.v (.c (.d (.int .i64 0))))⟩] [(7, 2), (8, 1), (9, 0)] []) ( .block 0 ( .loop (some [0, 1, 7, 8, 9]) fn85L0))) ( .seq (.seq (.reg false [⟨none, .mov (.r 0)⟩, ⟨none, .len (.l 0)⟩, ⟨none, .mov (.r 1)⟩, ⟨none, .len (.l 0)⟩, ⟨none, .bin .lss (.l 2) (.l 0)⟩] [(13, 0)] []) ( .cond (.r 13) ( .seq (.reg false [⟨none, .mov (.v (.c (.d (.int .i64 (-1)))))⟩] [(2, 0)] []) ( .ret)) ( .skip))) ( .seq (.reg false [⟨none, .mov (.v (.c (.d (.int .i64 0))))⟩] [(2, 0)] []) ( .ret))))⟩
def fn85 : Fn := fn85'
def fn86' : Fn := ⟨1, 2, [0, 2], [.r 1], .seq (.reg false [⟨none, .mov (.v (.c (.d (.nils))))⟩] [(1, 0)] []) ( .seq (.reg true [⟨none, .mov (.r 0)⟩, ⟨none, .nlc (.l 0)⟩, ⟨none, .fa 1 (.l 0)⟩, ⟨none, .mov (.r 0)⟩, ⟨none, .nlc (.l 0)⟩, ⟨none, .fa 0 (.l 0)⟩, ⟨none, .ld false 1 (.l 0)⟩, ⟨none, .cvi .i64 (.l 0)⟩, ⟨none, .mm false (.l 0) (.v (.c (.d (.int .i64 16))))⟩, ⟨none, .slp 16 1 (.l 6) none (some (.l 0)) none⟩, ⟨none, .mov (.l 0)⟩] [(1, 0)] []) ( .ret))⟩
def fn86 : Fn := fn86'
def fn87L0 : I := .seq (.seq (.reg false [⟨none, .mov (.r 3)⟩] [(4, 0)] []) ( .cond (.r 4) ( .skip) ( .exit 0))) ( .seq (.block 1 ( .seq (.reg false [⟨none, .mov (.r 0)⟩, ⟨none, .bin .rem (.l 0) (.v (.c (.d (.int .u32 10))))⟩, ⟨none, .bin .add (.v (.c (.d (.int .u32 48)))) (.l 0)⟩, ⟨none, .cvi .u8 (.l 0)⟩, ⟨none, .bsl 1 1 [.int .u8 0] [(0, 1, (.l 0))]⟩, ⟨none, .b2s (.l 0)⟩, ⟨none, .mov (.r 2)⟩, ⟨none, .bin .add (.l 1) (.l 0)⟩, ⟨none, .mov (.l 0)⟩] [(2, 0)] []) ( .reg false [⟨none, .mov (.r 0)⟩, ⟨none, .bin .quo (.l 0) (.v (.c (.d (.int .u32 10))))⟩, ⟨none, .mov (.l 0)⟩] [(0, 0)] []))) ( .reg false [⟨none, .mov (.r 0)⟩, ⟨none, .bin .gtr (.l 0) (.v (.c (.d (.int .u32 0))))⟩, ⟨none, .mov (.l 0)⟩] [(3, 0)] []))
def fn87' : Fn := ⟨1, 5, [0, 2, 3, 4, 5], [.r 1], .seq (.reg false [⟨none, .mov (.v (.c (.d (.str []))))⟩] [(1, 0)] []) ( .seq (.reg false [⟨none, .mov (.v (.c (.d (.str []))))⟩] [(2, 0)] []) ( .seq (.seq (.reg false [⟨none, .mov (.v (.c (.d (.bool true))))⟩] [(3, 0)] []) ( .block 0 ( .loop (some [0, 2, 3]) fn87L0))) ( .seq (.reg false [⟨none, .mov (.r 2)⟩, ⟨none, .mov (.l 0)⟩] [(1, 0)] []) ( .ret))))⟩
def fn87 : Fn := fn87'
def fn89 : Fn := ⟨2, 3, [0, 1, 4], [.r 2], .seq (.reg false [⟨none, .mov (.v (.c (.d (.str []))))⟩] [(2, 0)] []) ( .seq (.reg false [⟨none, .mov (.r 0)⟩, ⟨none, .mov (.r 1)⟩, ⟨none, .vc 111 [(.l 1), (.l 0)]⟩, ⟨none, .mov (.l 0)⟩] [(2, 0)] []) ( .ret))⟩
def fn93 : Fn := ⟨2, 3, [0, 1, 4], [.r 2], .seq (.reg false [⟨none, .mov (.v (.c (.d (.nilf))))⟩] [(2, 0)] []) ( .seq (.reg false [⟨none, .mov (.r 0)⟩, ⟨none, .mov (.r 1)⟩, ⟨none, .hc (.v (.c (.d (.fn 115 [] [])))) [(.l 1), (.l 0), (.v (.c (.d (.int .i64 0))))]⟩, ⟨none, .mov (.l 0)⟩] [(2, 0)] []) ( .ret))⟩
def fn94L0 : I := .seq (.reg false [⟨none, .bin .lss (.r 14) (.r 13)⟩] [(15, 0)] []) ( .seq (.cond (.r 15) ( .skip) ( .exit 0)) ( .seq (.block 1 ( .seq (.reg false [⟨none, .mov (.r 14)⟩, ⟨none, .ixa 1 (.r 12) (.r 14)⟩, ⟨none, .ld false 1 (.l 0)⟩, ⟨none, .mov (.l 2)⟩, ⟨none, .mov (.l 1)⟩] [(6, 1), (7, 0)] []) ( .seq (.seq (.reg false [⟨none, .mov (.r 7)⟩, ⟨none, .vc 118 [(.l 0)]⟩, ⟨none, .un .not (.l 0)⟩] [(16, 0)] []) ( .cond (.r 16) ( .seq (.reg false [⟨none, .bld [.int .u8 0, .int .u32 0, .int .u32 0, .int .u32 0, .int .u32 0, .int .u32 0, .int .u32 0, .int .u32 0, .int .u32 0, .int .u32 0, .int .u32 0, .int .u32 0, .int .u32 0, .int .u32 0, .int .u32 0, .int .u32 0, .int .u32 0] []⟩, ⟨none, .st 17 (.r 1) (.l 0)⟩, ⟨none, .mov (.v (.c (.d (.int .i64 6))))⟩] [(2, 0)] []) ( .ret)) ( .skip))) ( .seq (.reg false [⟨none, .mov (.r 7)⟩, ⟨none, .pc 119 [(.l 0), (.v (.c (.d (.int .i64 10)))), (.v (.c (.d (.int .i64 32))))]⟩, ⟨none, .mov (.l 0)⟩, ⟨none, .ext (.l 0) 0⟩, ⟨none, .ext (.l 1) 1⟩, ⟨none, .mov (.l 1)⟩, ⟨none, .mov (.l 1)⟩] [(8, 1), (9, 0)] []) ( .seq (.reg false [⟨none, .mov (.r 5)⟩, ⟨none, .mov (.l 0)⟩, ⟨some (0, false), .mov (.r 9)⟩, ⟨some (1, false), .isn true (.l 0)⟩, ⟨none, .pick (.l 2) (.v (.c (.d (.bool true)))) (.l 0)⟩, ⟨none, .mov (.l 0)⟩] [(5, 0)] []) ( .seq (.reg false [⟨none, .mov (.r 6)⟩, ⟨none, .bin .lss (.l 0) (.v (.c (.d (.int .i64 16))))⟩] [(17, 0)] []) ( .cond (.r 17) ( .reg false [⟨none, .mov (.r 6)⟩, ⟨none, .mov (.r 8)⟩, ⟨none, .cvi .u32 (.l 0)⟩, ⟨none, .fa 1 (.r 4)⟩, ⟨none, .ixp 16 1 (.l 0) (.l 3)⟩, ⟨none, .st 1 (.l 0) (.l 2)⟩] [] []) ( .skip)))))))) ( .reg false [⟨none, .bin .add (.r 14) (.v (.c (.d (.int .i64 1))))⟩, ⟨none, .mov (.l 0)⟩] [(14, 0)] [])))
def fn94' : Fn := ⟨1, 20, [0, 2, 3, 4, 5, 6, 7, 8, 9, 10, 11, 21, 27, 28, 29, 30, 36, 49, 56, 61], [.cell 1 17 true, .r 2], .seq (.reg false [⟨none, .new [.int .u8 0, .int .u32 0, .int .u32 0, .int .u32 0, .int .u32 0, .int .u32 0, .int .u32 0, .int .u32 0, .int .u32 0, .int .u32 0, .int .u32 0, .int .u32 0, .int .u32 0, .int .u32 0, .int .u32 0, .int .u32 0, .int .u32 0]⟩, ⟨none, .mov (.v (.c (.d (.int .i64 0))))⟩] [(1, 1), (2, 0)] []) ( .seq (.reg false [⟨none, .mov (.r 0)⟩, ⟨none, .pc 92 [(.l 0), (.v (.c (.d (.str [46]))))]⟩, ⟨none, .mov (.l 0)⟩] [(3, 0)] []) ( .seq (.seq (.reg false [⟨none, .mov (.r 3)⟩, ⟨none, .vc 116 [(.l 0), (.v (.c (.d (.fn 117 [] []))))]⟩, ⟨none, .un .not (.l 0)⟩, ⟨none, .mov (.l 0)⟩, ⟨some (0, true), .mov (.r 3)⟩, ⟨some (1, true), .len (.l 0)⟩, ⟨some (2, true), .bin .gtr (.l 0) (.v (.c (.d (.int .i64 16))))⟩, ⟨none, .pick (.l 3) (.l 0) (.v (.c (.d (.bool false))))⟩] [(11, 0)] []) ( .cond (.r 11) ( .seq (.reg false [⟨none, .bld [.int .u8 0, .int .u32 0, .int .u32 0, .int .u32 0, .int .u32 0, .int .u32 0, .int .u32 0, .int .u32 0, .int .u32 0, .int .u32 0, .int .u32 0, .int .u32 0, .int .u32 0, .int .u32 0, .int .u32 0, .int .u32 0, .int .u32 0] []⟩, ⟨none, .st 17 (.r 1) (.l 0)⟩, ⟨none, .mov (.v (.c (.d (.int .i64 3))))⟩] [(2, 0)] []) ( .ret)) ( .skip))) ( .seq (.reg false [⟨none, .mov (.r 3)⟩, ⟨none, .len (.l 0)⟩, ⟨none, .cvi .u8 (.l 0)⟩, ⟨none, .bld [.int .u8 0, .int .u32 0, .int .u32 0, .int .u32 0, .int .u32 0, .int .u32 0, .int .u32 0, .int .u32 0, .int .u32 0, .int .u32 0, .int .u32 0, .int .u32 0, .int .u32 0, .int .u32 0, .int .u32 0, .int .u32 0, .int .u32 0] [(0, 1, (.l 0))]⟩, ⟨none, .pre⟩, ⟨none, .ini 17 (.l 1)⟩] [(4, 0)] []) ( .seq (.reg false [⟨none, .mov (.v (.c (.d (.bool false))))⟩] [(5, 0)] []) ( .seq (.seq (.reg false [⟨none, .mov (.r 3)⟩, ⟨none, .len (.l 0)⟩, ⟨none, .mov (.v (.c (.d (.int .i64 0))))⟩] [(12, 2), (13, 1), (14, 0)] []) ( .block 0 ( .loop (some [1, 4, 5, 12, 13, 14]) fn94L0))) ( .seq (.seq (.reg false [⟨none, .mov (.r 5)⟩] [(18, 0)] []) ( .cond (.r 18) ( .seq (.reg false [⟨none, .bld [.int .u8 0, .int .u32 0, .int .u32 0, .int .u32 0, .int .u32 0, .int .u32 0, .int .u32 0, .int .u32 0, .int .u32 0, .int .u32 0, .int .u32 0, .int .u32 0, .int .u32 0, .int .u32 0, .int .u32 0, .int .u32 0, .int .u32 0] []⟩, ⟨none, .st 17 (.r 1) (.l 0)⟩, ⟨none, .mov (.v (.c (.d (.int .i64 3))))⟩] [(2, 0)] []) ( .ret)) ( .skip))) ( .seq (.seq (.reg false [⟨none, .ld true 17 (.r 4)⟩, ⟨none, .vc 53 [(.l 0)]⟩, ⟨none, .mov (.l 0)⟩] [(10, 0)] []) ( .seq (.reg false [⟨none, .mov (.r 10)⟩, ⟨none, .bin .neq (.l 0) (.v (.c (.d (.int .i64 0))))⟩] [(19, 0)] []) ( .cond (.r 19) ( .seq (.reg false [⟨none, .bld [.int .u8 0, .int .u32 0, .int .u32 0, .int .u32 0, .int .u32 0, .int .u32 0, .int .u32 0, .int .u32 0, .int .u32 0, .int .u32 0, .int .u32 0, .int .u32 0, .int .u32 0, .int .u32 0, .int .u32 0, .int .u32 0, .int .u32 0] []⟩, ⟨none, .mov (.r 10)⟩, ⟨none, .st 17 (.r 1) (.l 1)⟩, ⟨none, .mov (.l 1)⟩] [(2, 0)] []) ( .ret)) ( .skip)))) ( .seq (.reg false [⟨none, .ld true 17 (.r 4)⟩, ⟨none, .st 17 (.r 1) (.l 0)⟩, ⟨none, .mov (.v (.c (.d (.int .i64 0))))⟩] [(2, 0)] []) ( .ret)))))))))⟩
def fn94 : Fn := fn94'
def fn107 : Fn := ⟨1, 5, [0, 2, 3, 6, 18], [.cell 1 17 true], .seq (.reg false [⟨none, .new [.int .u8 0, .int .u32 0, .int .u32 0, .int .u32 0, .int .u32 0, .int .u32 0, .int .u32 0, .int .u32 0, .int .u32 0, .int .u32 0, .int .u32 0, .int .u32 0, .int .u32 0, .int .u32 0, .int .u32 0, .int .u32 0, .int .u32 0]⟩] [(1, 0)] []) ( .seq (.seq (.reg false [⟨none, .mov (.r 0)⟩, ⟨none, .len (.l 0)⟩, ⟨none, .bin .gtr (.l 0) (.v (.c (.d (.int .i64 16))))⟩] [(3, 0)] []) ( .cond (.r 3) ( .seq (.reg false [⟨none, .bld [.int .u8 0, .int .u32 0, .int .u32 0, .int .u32 0, .int .u32 0, .int .u32 0, .int .u32 0, .int .u32 0, .int .u32 0, .int .u32 0, .int .u32 0, .int .u32 0, .int .u32 0, .int .u32 0, .int .u32 0, .int .u32 0, .int .u32 0] []⟩, ⟨none, .st 17 (.r 1) (.l 0)⟩] [] []) ( .ret)) ( .skip))) ( .seq (.reg false [⟨none, .mov (.r 0)⟩, ⟨none, .len (.l 0)⟩, ⟨none, .cvi .u8 (.l 0)⟩, ⟨none, .bld [.int .u8 0, .int .u32 0, .int .u32 0, .int .u32 0, .int .u32 0, .int .u32 0, .int .u32 0, .int .u32 0, .int .u32 0, .int .u32 0, .int .u32 0, .int .u32 0, .int .u32 0, .int .u32 0, .int .u32 0, .int .u32 0, .int .u32 0] [(0, 1, (.l 0))]⟩, ⟨none, .pre⟩, ⟨none, .ini 17 (.l 1)⟩] [(2, 0)] []) ( .seq (.reg false [⟨none, .fa 1 (.r 2)⟩, ⟨none, .slp 16 1 (.l 0) none none none⟩, ⟨none, .mov (.r 0)⟩, ⟨none, .cpy 1 (.l 1) (.l 0)⟩] [] []) ( .seq (.seq (.reg false [⟨none, .ld true 17 (.r 2)⟩, ⟨none, .vc 53 [(.l 0)]⟩, ⟨none, .bin .neq (.l 0) (.v (.c (.d (.int .i64 0))))⟩] [(4, 0)] []) ( .cond (.r 4) ( .seq (.reg false [⟨none, .bld [.int .u8 0, .int .u32 0, .int .u32 0, .int .u32 0, .int .u32 0, .int .u32 0, .int .u32 0, .int .u32 0, .int .u32 0, .int .u32 0, .int .u32 0, .int .u32 0, .int .u32 0, .int .u32 0, .int .u32 0, .int .u32 0, .int .u32 0] []⟩, ⟨none, .st 17 (.r 1) (.l 0)⟩] [] []) ( .ret)) ( .skip))) ( .seq (.reg false [⟨none, .ld true 17 (.r 2)⟩, ⟨none, .st 17 (.r 1) (.l 0)⟩] [] []) ( .ret))))))⟩
def fn109' : Fn := ⟨2, 10, [0, 1, 4, 5, 6, 11, 12, 13, 16, 19], [.r 2], .seq (.reg false [⟨none, .mov (.v (.c (.d (.int .i64 0))))⟩] [(2, 0)] []) ( .seq (.reg false [⟨none, .mov (.r 0)⟩, ⟨none, .vc 135 [(.l 0)]⟩, ⟨none, .mov (.l 0)⟩] [(3, 0)] []) ( .seq (.reg false [⟨none, .mov (.r 1)⟩, ⟨none, .vc 135 [(.l 0)]⟩, ⟨none, .mov (.l 0)⟩] [(4, 0)] []) ( .seq (.seq (.reg false [⟨none, .mov (.r 3)⟩] [(5, 0)] []) ( .cond (.r 5) ( .seq (.seq (.reg false [⟨none, .mov (.r 4)⟩] [(6, 0)] []) ( .cond (.r 6) ( .seq (.reg false [⟨none, .mov (.v (.c (.d (.int .i64 0))))⟩] [(2, 0)] []) ( .ret)) ( .skip))) ( .seq (.reg false [⟨none, .mov (.v (.c (.d (.int .i64 (-1)))))⟩] [(2, 0)] []) ( .ret))) ( .skip))) ( .seq (.seq (.reg false [⟨none, .mov (.r 4)⟩] [(7, 0)] []) ( .cond (.r 7) ( .seq (.reg false [⟨none, .mov (.v (.c (.d (.int .i64 1))))⟩] [(2, 0)] []) ( .ret)) ( .skip))) ( .seq (.seq (.reg false [⟨none, .mov (.r 0)⟩, ⟨none, .mov (.r 1)⟩, ⟨none, .bin .lss (.l 1) (.l 0)⟩] [(8, 0)] []) ( .cond (.r 8) ( .seq (.reg false [⟨none, .mov (.v (.c (.d (.int .i64 (-1)))))⟩] [(2, 0)] []) ( .ret)) ( .skip))) ( .seq (.seq (.reg false [⟨none, .mov (.r 0)⟩, ⟨none, .mov (.r 1)⟩, ⟨none, .bin .gtr (.l 1) (.l 0)⟩] [(9, 0)] []) ( .cond (.r 9) ( .seq (.reg false [⟨none, .mov (.v (.c (.d (.int .i64 1))))⟩] [(2, 0)] []) ( .ret)) ( .skip))) ( .seq (.reg false [⟨none, .mov (.v (.c (.d (.int .i64 0))))⟩] [(2, 0)] []) ( .ret))))))))⟩
def fn109 : Fn := fn109'
def fn111 : Fn := ⟨2, 8, [0, 1, 4, 5, 6, 8, 10, 12], [.r 2], .seq (.reg false [⟨none, .mov (.v (.c (.d (.str []))))⟩] [(2, 0)] []) ( .seq (.seq (.reg false [⟨none, .mov (.r 1)⟩, ⟨none, .bin .eql (.l 0) (.v (.c (.d (.int .i64 10))))⟩] [(6, 0)] []) ( .cond (.r 6) ( .seq (.seq (.reg false [⟨none, .mov (.r 0)⟩, ⟨none, .bin .lss (.l 0) (.v (.c (.d (.int .u64 100))))⟩] [(7, 0)] []) ( .cond (.r 7) ( .seq (.reg false [⟨none, .mov (.r 0)⟩, ⟨none, .cvi .i64 (.l 0)⟩, ⟨none, .vc 136 [(.l 0)]⟩, ⟨none, .mov (.l 0)⟩] [(2, 0)] []) ( .ret)) ( .skip))) ( .seq (.reg false [⟨none, .new [.int .u8 0, .int .u8 0, .int .u8 0, .int .u8 0, .int .u8 0, .int .u8 0, .int .u8 0, .int .u8 0, .int .u8 0, .int .u8 0, .int .u8 0, .int .u8 0, .int .u8 0, .int .u8 0, .int .u8 0, .int .u8 0, .int .u8 0, .int .u8 0, .int .u8 0, .int .u8 0, .int .u8 0, .int .u8 0, .int .u8 0, .int .u8 0]⟩] [(3, 0)] []) ( .seq (.reg false [⟨none, .mov (.r 0)⟩, ⟨none, .pc 137 [(.l 0)]⟩, ⟨none, .mov (.l 0)⟩] [(4, 0)] []) ( .seq (.reg false [⟨none, .mov (.r 4)⟩, ⟨none, .slp 24 1 (.r 3) none (some (.l 0)) none⟩, ⟨none, .mov (.r 0)⟩, ⟨none, .hc (.v (.c (.d (.fn 138 [] [])))) [(.l 1), (.l 0)]⟩] [] []) ( .seq (.reg false [⟨none, .mov (.r 4)⟩, ⟨none, .slp 24 1 (.r 3) none (some (.l 0)) none⟩, ⟨none, .b2s (.l 0)⟩, ⟨none, .mov (.l 0)⟩] [(2, 0)] []) ( .ret)))))) ( .skip))) ( .seq (.reg false [⟨none, .mov (.r 0)⟩, ⟨none, .mov (.r 1)⟩, ⟨none, .vc 139 [(.v (.c (.d (.nils)))), (.l 1), (.l 0), (.v (.c (.d (.bool false)))), (.v (.c (.d (.bool false))))]⟩, ⟨none, .mov (.l 0)⟩, ⟨none, .ext (.l 0) 0⟩, ⟨none, .ext (.l 1) 1⟩, ⟨none, .mov (.l 1)⟩, ⟨none, .mov (.l 1)⟩] [(5, 0)] []) ( .seq (.reg false [⟨none, .mov (.r 5)⟩, ⟨none, .mov (.l 0)⟩] [(2, 0)] []) ( .ret))))⟩
def fn115 : Fn := ⟨3, 7, [0, 1, 2, 3, 4, 5, 6], [.r 6], .seq (.reg false [⟨none, .box (.r 0)⟩, ⟨none, .box (.r 1)⟩, ⟨none, .box (.r 2)⟩, ⟨none, .mov (.v (.c (.d (.nilf))))⟩] [(3, 3), (4, 2), (5, 1), (6, 0)] []) ( .seq (.reg false [⟨none, .mkf 148 [] [(.r 4), (.r 3), (.r 5)]⟩, ⟨none, .mov (.l 0)⟩] [(6, 0)] []) ( .ret))⟩
def fn116 : Fn := ⟨2, 3, [0, 1, 4], [.r 2], .seq (.reg false [⟨none, .mov (.v (.c (.d (.bool false))))⟩] [(2, 0)] []) ( .seq (.reg false [⟨none, .mov (.r 0)⟩, ⟨none, .mov (.r 1)⟩, ⟨none, .vc 150 [(.l 1), (.l 0)]⟩, ⟨none, .bin .geq (.l 0) (.v (.c (.d (.int .i64 0))))⟩, ⟨none, .mov (.l 0)⟩] [(2, 0)] []) ( .ret))⟩
def fn117 : Fn := ⟨1, 2, [0, 2], [.r 1], .seq (.reg false [⟨none, .mov (.v (.c (.d (.bool false))))⟩] [(1, 0)] []) ( .seq (.reg false [⟨none, .mov (.r 0)⟩, ⟨none, .vc 118 [(.l 0)]⟩, ⟨none, .un .not (.l 0)⟩, ⟨none, .mov (.l 0)⟩] [(1, 0)] []) ( .ret))⟩
def fn118 : Fn := ⟨1, 2, [0, 2], [.r 1], .seq (.reg false [⟨none, .mov (.v (.c (.d (.bool false))))⟩] [(1, 0)] []) ( .seq (.reg false [⟨none, .mov (.r 0)⟩, ⟨none, .bin .eql (.l 0) (.v (.c (.d (.str [48]))))⟩, ⟨none, .mov (.l 0)⟩, ⟨some (0, false), .mov (.r 0)⟩, ⟨some (1, false), .bin .neq (.l 0) (.v (.c (.d (.str []))))⟩, ⟨some (2, false), .mov (.l 0)⟩, ⟨some (0, true), .mov (.r 0)⟩, ⟨some (1, true), .ixs (.l 0) (.v (.c (.d (.int .i64 0))))⟩, ⟨some (2, true), .bin .neq (.l 0) (.v (.c (.d (.int .u8 48))))⟩, ⟨some (6, false), .pick (.l 3) (.l 0) (.v (.c (.d (.bool false))))⟩, ⟨some (7, false), .mov (.l 0)⟩, ⟨some (0, true), .mov (.r 0)⟩, ⟨some (1, true), .pc 151 [(.l 0), (.v (.c (.d (.str [48, 49, 50, 51, 52, 53, 54, 55, 56, 57]))))]⟩, ⟨some (2, true), .bin .eql (.l 0) (.v (.c (.d (.str []))))⟩, ⟨some (11, false), .pick (.l 3) (.l 0) (.v (.c (.d (.bool false))))⟩, ⟨none, .pick (.l 12) (.v (.c (.d (.bool true)))) (.l 0)⟩, ⟨none, .mov (.l 0)⟩] [(1, 0)] []) ( .ret))⟩
def fn135' : Fn := ⟨1, 2, [0, 2], [.r 1], .seq (.reg false [⟨none, .mov (.v (.c (.d (.bool false))))⟩] [(1, 0)] []) ( .seq (.reg false [⟨none, .mov (.r 0)⟩, ⟨none, .mov (.r 0)⟩, ⟨none, .bin .neq (.l 1) (.l 0)⟩, ⟨none, .mov (.l 0)⟩] [(1, 0)] []) ( .ret))⟩
def fn135 : Fn := fn135'
def fn136 : Fn := ⟨1, 3, [0, 2, 4], [.r 1], .seq (.reg false [⟨none, .mov (.v (.c (.d (.str []))))⟩] [(1, 0)] []) ( .seq (.seq (.reg false [⟨none, .mov (.r 0)⟩, ⟨none, .bin .lss (.l 0) (.v (.c (.d (.int .i64 10))))⟩] [(2, 0)] []) ( .cond (.r 2) ( .seq (.reg false [⟨none, .mov (.r 0)⟩, ⟨none, .mov (.r 0)⟩, ⟨none, .bin .add (.l 0) (.v (.c (.d (.int .i64 1))))⟩, ⟨none, .sls (.v (.c (.d (.str [48, 49, 50, 51, 52, 53, 54, 55, 56, 57, 97, 98, 99, 100, 101, 102, 103, 104, 105, 106, 107, 108, 109, 110, 111, 112, 113, 114, 115, 116, 117, 118, 119, 120, 121, 122])))) (some (.l 2)) (some (.l 0))⟩, ⟨none, .mov (.l 0)⟩] [(1, 0)] []) ( .ret)) ( .skip))) ( .seq (.reg false [⟨none, .mov (.r 0)⟩, ⟨none, .bin .mul (.l 0) (.v (.c (.d (.int .i64 2))))⟩, ⟨none, .mov (.r 0)⟩, ⟨none, .bin .mul (.l 0) (.v (.c (.d (.int .i64 2))))⟩, ⟨none, .bin .add (.l 0) (.v (.c (.d (.int .i64 2))))⟩, ⟨none, .sls (.v (.c (.d (.str [48, 48, 48, 49, 48, 50, 48, 51, 48, 52, 48, 53, 48, 54, 48, 55, 48, 56, 48, 57, 49, 48, 49, 49, 49, 50, 49, 51, 49, 52, 49, 53, 49, 54, 49, 55, 49, 56, 49, 57, 50, 48, 50, 49, 50, 50, 50, 51, 50, 52, 50, 53, 50, 54, 50, 55, 50, 56, 50, 57, 51, 48, 51, 49, 51, 50, 51, 51, 51, 52, 51, 53, 51, 54, 51, 55, 51, 56, 51, 57, 52, 48, 52, 49, 52, 50, 52, 51, 52, 52, 52, 53, 52, 54, 52, 55, 52, 56, 52, 57, 53, 48, 53, 49, 53, 50, 53, 51, 53, 52, 53, 53, 53, 54, 53, 55, 53, 56, 53, 57, 54, 48, 54, 49, 54, 50, 54, 51, 54, 52, 54, 53, 54, 54, 54, 55, 54, 56, 54, 57, 55, 48, 55, 49, 55, 50, 55, 51, 55, 52, 55, 53, 55, 54, 55, 55, 55, 56, 55, 57, 56, 48, 56, 49, 56, 50, 56, 51, 56, 52, 56, 53, 56, 54, 56, 55, 56, 56, 56, 57, 57, 48, 57, 49, 57, 50, 57, 51, 57, 52, 57, 53, 57, 54, 57, 55, 57, 56, 57, 57])))) (some (.l 3)) (some (.l 0))⟩, ⟨none, .mov (.l 0)⟩] [(1, 0)] []) ( .ret)))⟩
def fn148L0 : I := .block 3 ( .seq (.reg false [⟨none, .ld false 1 (.r 2)⟩, ⟨none, .ld false 1 (.r 1)⟩, ⟨none, .pc 147 [(.l 1), (.l 0)]⟩, ⟨none, .mov (.l 0)⟩] [(5, 0)] []) ( .seq (.seq (.reg false [⟨none, .mov (.r 5)⟩, ⟨none, .bin .lss (.l 0) (.v (.c (.d (.int .i64 0))))⟩] [(10, 0)] []) ( .cond (.r 10) ( .exit 2) ( .skip))) ( .seq (.reg false [⟨none, .ld false 1 (.r 2)⟩, ⟨none, .mov (.r 5)⟩, ⟨none, .ld false 1 (.r 3)⟩, ⟨none, .bin .add (.l 1) (.l 0)⟩, ⟨none, .sls (.l 3) none (some (.l 0))⟩, ⟨none, .mov (.l 0)⟩] [(6, 0)] []) ( .seq (.seq (.reg false [⟨none, .mov (.r 0)⟩, ⟨none, .mov (.r 6)⟩, ⟨none, .hc (.l 1) [(.l 0)]⟩, ⟨none, .un .not (.l 0)⟩] [(11, 0)] []) ( .cond (.r 11) ( .ret) ( .skip))) ( .reg false [⟨none, .ld false 1 (.r 2)⟩, ⟨none, .mov (.r 5)⟩, ⟨none, .ld false 1 (.r 1)⟩, ⟨none, .lns (.l 0)⟩, ⟨none, .bin .add (.l 2) (.l 0)⟩, ⟨none, .sls (.l 4) (some (.l 0)) none⟩, ⟨none, .st 1 (.r 2) (.l 0)⟩] [] [])))))
def fn148L1 : I := .seq (.seq (.reg false [⟨none, .ld false 1 (.r 2)⟩, ⟨none, .lns (.l 0)⟩, ⟨none, .bin .gtr (.l 0) (.v (.c (.d (.int .i64 0))))⟩] [(8, 0)] []) ( .cond (.r 8) ( .skip) ( .exit 0))) ( .block 1 ( .seq (.reg false [⟨none, .ld false 1 (.r 2)⟩, ⟨none, .vc 149 [(.l 0)]⟩, ⟨none, .mov (.l 0)⟩, ⟨none, .ext (.l 0) 0⟩, ⟨none, .ext (.l 1) 1⟩, ⟨none, .mov (.l 1)⟩, ⟨none, .mov (.l 1)⟩] [(4, 0)] []) ( .seq (.seq (.reg false [⟨none, .mov (.r 0)⟩, ⟨none, .ld false 1 (.r 2)⟩, ⟨none, .mov (.r 4)⟩, ⟨none, .sls (.l 1) none (some (.l 0))⟩, ⟨none, .hc (.l 3) [(.l 0)]⟩, ⟨none, .un .not (.l 0)⟩] [(9, 0)] []) ( .cond (.r 9) ( .ret) ( .skip))) ( .reg false [⟨none, .ld false 1 (.r 2)⟩, ⟨none, .mov (.r 4)⟩, ⟨none, .sls (.l 1) (some (.l 0)) none⟩, ⟨none, .st 1 (.r 2) (.l 0)⟩] [] []))))
def fn148' : Fn := ⟨4, 12, [0, 1, 2, 3, 6, 7, 8, 11, 14, 25, 33, 42], [], .seq (.seq (.reg false [⟨none, .ld false 1 (.r 1)⟩, ⟨none, .lns (.l 0)⟩, ⟨none, .bin .eql (.l 0) (.v (.c (.d (.int .i64 0))))⟩] [(7, 0)] []) ( .cond (.r 7) ( .seq (.block 0 ( .loop (some [0, 2]) fn148L1)) ( .ret)) ( .skip))) ( .seq (.block 2 ( .loop (some [0, 1, 2, 3]) fn148L0)) ( .reg false [⟨none, .mov (.r 0)⟩, ⟨none, .ld false 1 (.r 2)⟩, ⟨none, .hc (.l 1) [(.l 0)]⟩] [] []))⟩
def fn148 : Fn := fn148'
def fn149 : Fn := ⟨1, 4, [0, 2, 3, 10], [.r 1, .r 2], .seq (.reg false [⟨none, .mov (.v (.c (.d (.int .i32 0))))⟩, ⟨none, .mov (.v (.c (.d (.int .i64 0))))⟩] [(1, 1), (2, 0)] []) ( .seq (.seq (.reg false [⟨none, .mov (.r 0)⟩, ⟨none, .bin .neq (.l 0) (.v (.c (.d (.str []))))⟩, ⟨none, .mov (.l 0)⟩, ⟨some (0, true), .mov (.r 0)⟩, ⟨some (1, true), .ixs (.l 0) (.v (.c (.d (.int .i64 0))))⟩, ⟨some (2, true), .bin .lss (.l 0) (.v (.c (.d (.int .u8 128))))⟩, ⟨none, .pick (.l 3) (.l 0) (.v (.c (.d (.bool false))))⟩] [(3, 0)] []) ( .cond (.r 3) ( .seq (.reg false [⟨none, .mov (.r 0)⟩, ⟨none, .ixs (.l 0) (.v (.c (.d (.int .i64 0))))⟩, ⟨none, .cvi .i32 (.l 0)⟩, ⟨none, .mov (.l 0)⟩, ⟨none, .mov (.v (.c (.d (.int .i64 1))))⟩] [(1, 1), (2, 0)] []) ( .ret)) ( .reg false [⟨none, .mov (.r 0)⟩, ⟨none, .vc 168 [(.l 0)]⟩, ⟨none, .mov (.l 0)⟩, ⟨none, .ext (.l 0) 0⟩, ⟨none, .ext (.l 1) 1⟩, ⟨none, .mov (.l 1)⟩, ⟨none, .mov (.l 1)⟩] [(1, 1), (2, 0)] []))) ( .ret))⟩
def fn150L0 : I := .seq (.reg false [⟨none, .bin .lss (.r 5) (.r 4)⟩] [(6, 0)] []) ( .seq (.cond (.r 6) ( .skip) ( .exit 0)) ( .seq (.block 1 ( .seq (.reg false [⟨none, .mov (.r 5)⟩, ⟨none, .mov (.l 0)⟩] [(3, 0)] []) ( .seq (.reg false [⟨none, .mov (.r 1)⟩, ⟨none, .mov (.r 0)⟩, ⟨none, .mov (.r 3)⟩, ⟨none, .ixa 1 (.l 1) (.l 0)⟩, ⟨none, .ld false 1 (.l 0)⟩, ⟨none, .hc (.l 4) [(.l 0)]⟩] [(7, 0)] []) ( .cond (.r 7) ( .seq (.reg false [⟨none, .mov (.r 3)⟩, ⟨none, .mov (.l 0)⟩] [(2, 0)] []) ( .ret)) ( .skip))))) ( .reg false [⟨none, .bin .add (.r 5) (.v (.c (.d (.int .i64 1))))⟩, ⟨none, .mov (.l 0)⟩] [(5, 0)] [])))
def fn150' : Fn := ⟨2, 8, [0, 1, 4, 5, 7, 8, 9, 16], [.r 2], .seq (.reg false [⟨none, .mov (.v (.c (.d (.int .i64 0))))⟩] [(2, 0)] []) ( .seq (.seq (.reg false [⟨none, .mov (.r 0)⟩, ⟨none, .len (.l 0)⟩, ⟨none, .mov (.v (.c (.d (.int .i64 0))))⟩] [(4, 1), (5, 0)] []) ( .block 0 ( .loop (some [0, 1, 4, 5]) fn150L0))) ( .seq (.reg false [⟨none, .mov (.v (.c (.d (.int .i64 (-1)))))⟩] [(2, 0)] []) ( .ret)))⟩
def fn150 : Fn := fn150'
def fn168 : Fn := ⟨1, 20, [0, 2, 3, 4, 5, 6, 7, 8, 9, 10, 11, 12, 16, 23, 45, 57, 59, 75, 77, 98], [.r 1, .r 2], .seq (.reg false [⟨none, .mov (.v (.c (.d (.int .i32 0))))⟩, ⟨none, .mov (.v (.c (.d (.int .i64 0))))⟩] [(1, 1), (2, 0)] []) ( .seq (.reg false [⟨none, .mov (.r 0)⟩, ⟨none, .lns (.l 0)⟩, ⟨none, .mov (.l 0)⟩] [(3, 0)] []) ( .seq (.seq (.reg false [⟨none, .mov (.r 3)⟩, ⟨none, .bin .lss (.l 0) (.v (.c (.d (.int .i64 1))))⟩] [(12, 0)] []) ( .cond (.r 12) ( .seq (.reg false [⟨none, .mov (.v (.c (.d (.int .i32 65533))))⟩, ⟨none, .mov (.v (.c (.d (.int .i64 0))))⟩] [(1, 1), (2, 0)] []) ( .ret)) ( .skip))) ( .seq (.reg false [⟨none, .mov (.r 0)⟩, ⟨none, .ixs (.l 0) (.v (.c (.d (.int .i64 0))))⟩, ⟨none, .mov (.l 0)⟩] [(4, 0)] []) ( .seq (.reg false [⟨none, .mov (.r 4)⟩, ⟨none, .ixp 256 1 (.g 3) (.l 0)⟩, ⟨none, .ld false 1 (.l 0)⟩, ⟨none, .mov (.l 0)⟩] [(5, 0)] []) ( .seq (.seq (.reg false [⟨none, .mov (.r 5)⟩, ⟨none, .bin .geq (.l 0) (.v (.c (.d (.int .u8 240))))⟩] [(13, 0)] []) ( .cond (.r 13) ( .seq (.reg false [⟨none, .mov (.r 5)⟩, ⟨none, .cvi .i32 (.l 0)⟩, ⟨none, .bin .shl (.l 0) (.v (.c (.d (.int .u64 31))))⟩, ⟨none, .bin .shr (.l 0) (.v (.c (.d (.int .u64 31))))⟩, ⟨none, .mov (.l 0)⟩] [(6, 0)] []) ( .seq (.reg false [⟨none, .mov (.r 0)⟩, ⟨none, .ixs (.l 0) (.v (.c (.d (.int .i64 0))))⟩, ⟨none, .cvi .i32 (.l 0)⟩, ⟨none, .mov (.r 6)⟩, ⟨none, .bin .andNot (.l 1) (.l 0)⟩, ⟨none, .mov (.r 6)⟩, ⟨none, .bin .and (.v (.c (.d (.int .i32 65533)))) (.l 0)⟩, ⟨none, .bin .or (.l 2) (.l 0)⟩, ⟨none, .mov (.l 0)⟩, ⟨none, .mov (.v (.c (.d (.int .i64 1))))⟩] [(1, 1), (2, 0)] []) ( .ret))) ( .skip))) ( .seq (.reg false [⟨none, .mov (.r 5)⟩, ⟨none, .bin .and (.l 0) (.v (.c (.d (.int .u8 7))))⟩, ⟨none, .cvi .i64 (.l 0)⟩, ⟨none, .mov (.l 0)⟩] [(7, 0)] []) ( .seq (.reg false [⟨none, .mov (.r 5)⟩, ⟨none, .bin .shr (.l 0) (.v (.c (.d (.int .u64 4))))⟩, ⟨none, .ixp 16 2 (.g 4) (.l 0)⟩, ⟨none, .ld true 2 (.l 0)⟩, ⟨none, .pre⟩, ⟨none, .ini 2 (.l 1)⟩] [(8, 0)] []) ( .seq (.seq (.reg false [⟨none, .mov (.r 3)⟩, ⟨none, .mov (.r 7)⟩, ⟨none, .bin .lss (.l 1) (.l 0)⟩] [(14, 0)] []) ( .cond (.r 14) ( .seq (.reg false [⟨none, .mov (.v (.c (.d (.int .i32 65533))))⟩, ⟨none, .mov (.v (.c (.d (.int .i64 1))))⟩] [(1, 1), (2, 0)] []) ( .ret)) ( .skip))) ( .seq (.reg false [⟨none, .mov (.r 0)⟩, ⟨none, .ixs (.l 0) (.v (.c (.d (.int .i64 1))))⟩, ⟨none, .mov (.l 0)⟩] [(9, 0)] []) ( .seq (.seq (.reg false [⟨none, .mov (.r 9)⟩, ⟨none, .fa 0 (.r 8)⟩, ⟨none, .ld false 1 (.l 0)⟩, ⟨none, .bin .lss (.l 2) (.l 0)⟩, ⟨none, .mov (.l 0)⟩, ⟨some (0, false), .fa 1 (.r 8)⟩, ⟨some (1, false), .ld false 1 (.l 0)⟩, ⟨some (2, false), .mov (.r 9)⟩, ⟨some (3, false), .bin .lss (.l 1) (.l 0)⟩, ⟨none, .pick (.l 4) (.v (.c (.d (.bool true)))) (.l 0)⟩] [(15, 0)] []) ( .cond (.r 15) ( .seq (.reg false [⟨none, .mov (.v (.c (.d (.int .i32 65533))))⟩, ⟨none, .mov (.v (.c (.d (.int .i64 1))))⟩] [(1, 1), (2, 0)] []) ( .ret)) ( .skip))) ( .seq (.seq (.reg false [⟨none, .mov (.r 7)⟩, ⟨none, .bin .leq (.l 0) (.v (.c (.d (.int .i64 2))))⟩] [(16, 0)] []) ( .cond (.r 16) ( .seq (.reg false [⟨none, .mov (.r 4)⟩, ⟨none, .bin .and (.l 0) (.v (.c (.d (.int .u8 31))))⟩, ⟨none, .cvi .i32 (.l 0)⟩, ⟨none, .bin .shl (.l 0) (.v (.c (.d (.int .u64 6))))⟩, ⟨none, .mov (.r 9)⟩, ⟨none, .bin .and (.l 0) (.v (.c (.d (.int .u8 63))))⟩, ⟨none, .cvi .i32 (.l 0)⟩, ⟨none, .bin .or (.l 3) (.l 0)⟩, ⟨none, .mov (.l 0)⟩, ⟨none, .mov (.v (.c (.d (.int .i64 2))))⟩] [(1, 1), (2, 0)] []) ( .ret)) ( .skip))) ( .seq (.reg false [⟨none, .mov (.r 0)⟩, ⟨none, .ixs (.l 0) (.v (.c (.d (.int .i64 2))))⟩, ⟨none, .mov (.l 0)⟩] [(10, 0)] []) ( .seq (.seq (.reg false [⟨none, .mov (.r 10)⟩, ⟨none, .bin .lss (.l 0) (.v (.c (.d (.int .u8 128))))⟩, ⟨none, .mov (.l 0)⟩, ⟨some (0, false), .mov (.r 10)⟩, ⟨some (1, false), .bin .lss (.v (.c (.d (.int .u8 191)))) (.l 0)⟩, ⟨none, .pick (.l 2) (.v (.c (.d (.bool true)))) (.l 0)⟩] [(17, 0)] []) ( .cond (.r 17) ( .seq (.reg false [⟨none, .mov (.v (.c (.d (.int .i32 65533))))⟩, ⟨none, .mov (.v (.c (.d (.int .i64 1))))⟩] [(1, 1), (2, 0)] []) ( .ret)) ( .skip))) ( .seq (.seq (.reg false [⟨none, .mov (.r 7)⟩, ⟨none, .bin .leq (.l 0) (.v (.c (.d (.int .i64 3))))⟩] [(18, 0)] []) ( .cond (.r 18) ( .seq (.reg false [⟨none, .mov (.r 4)⟩, ⟨none, .bin .and (.l 0) (.v (.c (.d (.int .u8 15))))⟩, ⟨none, .cvi .i32 (.l 0)⟩, ⟨none, .bin .shl (.l 0) (.v (.c (.d (.int .u64 12))))⟩, ⟨none, .mov (.r 9)⟩, ⟨none, .bin .and (.l 0) (.v (.c (.d (.int .u8 63))))⟩, ⟨none, .cvi .i32 (.l 0)⟩, ⟨none, .bin .shl (.l 0) (.v (.c (.d (.int .u64 6))))⟩, ⟨none, .bin .or (.l 4) (.l 0)⟩, ⟨none, .mov (.r 10)⟩, ⟨none, .bin .and (.l 0) (.v (.c (.d (.int .u8 63))))⟩, ⟨none, .cvi .i32 (.l 0)⟩, ⟨none, .bin .or (.l 3) (.l 0)⟩, ⟨none, .mov (.l 0)⟩, ⟨none, .mov (.v (.c (.d (.int .i64 3))))⟩] [(1, 1), (2, 0)] []) ( .ret)) ( .skip))) ( .seq (.reg false [⟨none, .mov (.r 0)⟩, ⟨none, .ixs (.l 0) (.v (.c (.d (.int .i64 3))))⟩, ⟨none, .mov (.l 0)⟩] [(11, 0)] []) ( .seq (.seq (.reg false [⟨none, .mov (.r 11)⟩, ⟨none, .bin .lss (.l 0) (.v (.c (.d (.int .u8 128))))⟩, ⟨none, .mov (.l 0)⟩, ⟨some (0, false), .mov (.r 11)⟩, ⟨some (1, false), .bin .lss (.v (.c (.d (.int .u8 191)))) (.l 0)⟩, ⟨none, .pick (.l 2) (.v (.c (.d (.bool true)))) (.l 0)⟩] [(19, 0)] []) ( .cond (.r 19) ( .seq (.reg false [⟨none, .mov (.v (.c (.d (.int .i32 65533))))⟩, ⟨none, .mov (.v (.c (.d (.int .i64 1))))⟩] [(1, 1), (2, 0)] []) ( .ret)) ( .skip))) ( .seq (.reg false [⟨none, .mov (.r 4)⟩, ⟨none, .bin .and (.l 0) (.v (.c (.d (.int .u8 7))))⟩, ⟨none, .cvi .i32 (.l 0)⟩, ⟨none, .bin .shl (.l 0) (.v (.c (.d (.int .u64 18))))⟩, ⟨none, .mov (.r 9)⟩, ⟨none, .bin .and (.l 0) (.v (.c (.d (.int .u8 63))))⟩, ⟨none, .cvi .i32 (.l 0)⟩, ⟨none, .bin .shl (.l 0) (.v (.c (.d (.int .u64 12))))⟩, ⟨none, .bin .or (.l 4) (.l 0)⟩, ⟨none, .mov (.r 10)⟩, ⟨none, .bin .and (.l 0) (.v (.c (.d (.int .u8 63))))⟩, ⟨none, .cvi .i32 (.l 0)⟩, ⟨none, .bin .shl (.l 0) (.v (.c (.d (.int .u64 6))))⟩, ⟨none, .bin .or (.l 4) (.l 0)⟩, ⟨none, .mov (.r 11)⟩, ⟨none, .bin .and (.l 0) (.v (.c (.d (.int .u8 63))))⟩, ⟨none, .cvi .i32 (.l 0)⟩, ⟨none, .bin .or (.l 3) (.l 0)⟩, ⟨none, .mov (.l 0)⟩, ⟨none, .mov (.v (.c (.d (.int .i64 4))))⟩] [(1, 1), (2, 0)] []) ( .ret))))))))))))))))))⟩
def fnsA : FuncId → Option Fn
  | 19 => some fn19
  | 20 => some fn20
  | 33 => some fn33
  | 53 => some fn53
  | 54 => some fn54
  | 56 => some fn56
  | 58 => some fn58
  | 61 => some fn61
  | 70 => some fn70
  | 83 => some fn83
  | 85 => some fn85
  | 86 => some fn86
  | 87 => some fn87
  | 89 => some fn89
  | 93 => some fn93
  | 94 => some fn94
  | 107 => some fn107
  | 109 => some fn109
  | 111 => some fn111
  | 115 => some fn115
  | 116 => some fn116
  | 117 => some fn117
  | 118 => some fn118
  | 135 => some fn135
  | 136 => some fn136
  | 148 => some fn148
  | 149 => some fn149
  | 150 => some fn150
  | 168 => some fn168
  | _ => none
end Mini
end Go.Proofs.YtgjlofpfbhioaaaGreatDoor
