/-
  JournalsKnown: texts of the proof, part 20.
-/
import Derived.Test.YtgjlofpfbhioaaaGreatDoorLX18
namespace Go.Proofs.YtgjlofpfbhioaaaGreatDoor
namespace Mini
open Go
variable {m : Int}
def fn15Z0 : I := .reg false [⟨none, .mks 5 56 [.str [], .bool false, .int .u8 0, .int .i64 0, .nils] (.v (.c (.d (.int .i64 4097)))) (.v (.c (.d (.int .i64 4097))))⟩, ⟨none, .vc 47 [(.l 0)]⟩, ⟨none, .mov (.l 0)⟩, ⟨none, .ext (.l 0) 0⟩, ⟨none, .ext (.l 1) 1⟩, ⟨none, .mov (.l 1)⟩, ⟨none, .mov (.l 1)⟩] [(19, 0)] []
def fn15Z1 : I := .reg false [⟨none, .mks 1 1 [.int .u8 0] (.v (.c (.d (.int .i64 1048577)))) (.v (.c (.d (.int .i64 1048577))))⟩, ⟨none, .b2s (.l 0)⟩, ⟨none, .vc 37 [(.l 0)]⟩, ⟨none, .mov (.l 0)⟩, ⟨none, .ext (.l 0) 0⟩, ⟨none, .ext (.l 1) 1⟩, ⟨none, .ext (.l 2) 2⟩, ⟨none, .ext (.l 3) 3⟩, ⟨none, .mov (.l 3)⟩, ⟨none, .mov (.l 3)⟩, ⟨none, .mov (.l 3)⟩, ⟨none, .mov (.l 3)⟩] [(20, 1), (21, 0)] []
def fn15Z2 : I := .reg false [⟨none, .mks 1 1 [.int .u8 0] (.v (.c (.d (.int .i64 1048576)))) (.v (.c (.d (.int .i64 1048576))))⟩, ⟨none, .b2s (.l 0)⟩, ⟨none, .vc 37 [(.l 0)]⟩, ⟨none, .mov (.l 0)⟩, ⟨none, .ext (.l 0) 0⟩, ⟨none, .ext (.l 1) 1⟩, ⟨none, .ext (.l 2) 2⟩, ⟨none, .ext (.l 3) 3⟩, ⟨none, .mov (.l 3)⟩, ⟨none, .mov (.l 3)⟩, ⟨none, .mov (.l 3)⟩, ⟨none, .mov (.l 3)⟩] [(22, 3), (23, 0)] []
def fn15Z3 : I := .reg false [⟨none, .mks 1 1 [.int .u8 0] (.v (.c (.d (.int .i64 1048577)))) (.v (.c (.d (.int .i64 1048577))))⟩, ⟨none, .b2s (.l 0)⟩, ⟨none, .vc 43 [(.l 0)]⟩, ⟨none, .mov (.l 0)⟩, ⟨none, .ext (.l 0) 0⟩, ⟨none, .ext (.l 1) 1⟩, ⟨none, .ext (.l 2) 2⟩, ⟨none, .mov (.l 2)⟩, ⟨none, .mov (.l 2)⟩, ⟨none, .mov (.l 2)⟩] [(24, 0)] []
def fn15C : I := .seq (.reg false [⟨none, .mov (.r 11)⟩, ⟨none, .bin .neq (.l 0) (.v (.c (.d (.int .i64 0))))⟩, ⟨none, .mov (.l 0)⟩, ⟨some (0, false), .mov (.r 9)⟩, ⟨some (1, false), .mov (.r 7)⟩, ⟨some (2, false), .bin .neq (.l 1) (.l 0)⟩, ⟨none, .pick (.l 3) (.v (.c (.d (.bool true)))) (.l 0)⟩, ⟨none, .mov (.l 0)⟩, ⟨some (0, false), .mov (.r 10)⟩, ⟨some (1, false), .bin .neq (.l 0) (.v (.c (.d (.int .i64 0))))⟩, ⟨none, .pick (.l 2) (.v (.c (.d (.bool true)))) (.l 0)⟩, ⟨none, .mov (.l 0)⟩, ⟨some (0, false), .mov (.r 8)⟩, ⟨some (1, false), .len (.l 0)⟩, ⟨some (2, false), .bin .neq (.l 0) (.v (.c (.d (.int .i64 4096))))⟩, ⟨none, .pick (.l 3) (.v (.c (.d (.bool true)))) (.l 0)⟩, ⟨none, .mov (.l 0)⟩, ⟨some (0, false), .mov (.r 13)⟩, ⟨some (1, false), .bin .neq (.l 0) (.v (.c (.d (.int .i64 3))))⟩, ⟨none, .pick (.l 2) (.v (.c (.d (.bool true)))) (.l 0)⟩, ⟨none, .mov (.l 0)⟩, ⟨some (0, false), .mov (.r 12)⟩, ⟨some (1, false), .bin .neq (.l 0) (.v (.c (.d (.int .i64 4097))))⟩, ⟨none, .pick (.l 2) (.v (.c (.d (.bool true)))) (.l 0)⟩, ⟨none, .mov (.l 0)⟩, ⟨some (0, false), .mov (.r 14)⟩, ⟨some (1, false), .bin .neq (.l 0) (.v (.c (.d (.int .i64 3))))⟩, ⟨none, .pick (.l 2) (.v (.c (.d (.bool true)))) (.l 0)⟩, ⟨none, .mov (.l 0)⟩, ⟨some (0, false), .mov (.r 15)⟩, ⟨some (1, false), .bin .neq (.l 0) (.v (.c (.d (.int .i64 3))))⟩, ⟨none, .pick (.l 2) (.v (.c (.d (.bool true)))) (.l 0)⟩, ⟨none, .mov (.l 0)⟩, ⟨some (0, false), .mov (.r 18)⟩, ⟨some (1, false), .bin .neq (.l 0) (.v (.c (.d (.int .i64 0))))⟩, ⟨none, .pick (.l 2) (.v (.c (.d (.bool true)))) (.l 0)⟩, ⟨none, .mov (.l 0)⟩, ⟨some (0, false), .mov (.r 17)⟩, ⟨some (1, false), .bin .neq (.l 0) (.v (.c (.d (.int .i64 4096))))⟩, ⟨none, .pick (.l 2) (.v (.c (.d (.bool true)))) (.l 0)⟩, ⟨none, .mov (.l 0)⟩, ⟨some (0, false), .mov (.r 16)⟩, ⟨some (1, false), .lns (.l 0)⟩, ⟨some (2, false), .mov (.r 7)⟩, ⟨some (3, false), .bin .neq (.l 1) (.l 0)⟩, ⟨none, .pick (.l 4) (.v (.c (.d (.bool true)))) (.l 0)⟩] [(29, 0)] []) ( .cond (.r 29) ( .seq (.reg false [⟨none, .mov (.v (.c (.d (.bool false))))⟩] [(0, 0)] []) ( .ret)) ( .skip))
def fn15T : I := .seq (.reg false [⟨none, .bld [.str [], .bool false, .int .u8 0, .int .i64 0, .nils] []⟩, ⟨none, .vc 36 [(.v (.c (.d (.str [120])))), (.l 0)]⟩, ⟨none, .mov (.l 0)⟩, ⟨none, .ext (.l 0) 0⟩, ⟨none, .ext (.l 1) 1⟩, ⟨none, .mov (.l 1)⟩, ⟨none, .mov (.l 1)⟩] [(25, 0)] []) ( .seq (.reg false [⟨none, .bld [.str [], .bool false, .int .u8 0, .int .i64 0, .nils] []⟩, ⟨none, .vc 36 [(.v (.c (.d (.str [120, 10])))), (.l 0)]⟩, ⟨none, .mov (.l 0)⟩, ⟨none, .ext (.l 0) 0⟩, ⟨none, .ext (.l 1) 1⟩, ⟨none, .mov (.l 1)⟩, ⟨none, .mov (.l 1)⟩] [(26, 0)] []) ( .seq (.reg false [⟨none, .mov (.r 19)⟩, ⟨none, .bin .eql (.l 0) (.v (.c (.d (.int .i64 3))))⟩, ⟨none, .mov (.l 0)⟩, ⟨some (0, true), .mov (.r 21)⟩, ⟨some (1, true), .bin .eql (.l 0) (.v (.c (.d (.int .i64 3))))⟩, ⟨none, .pick (.l 2) (.l 0) (.v (.c (.d (.bool false))))⟩, ⟨none, .mov (.l 0)⟩, ⟨some (0, true), .mov (.r 20)⟩, ⟨some (1, true), .bin .eql (.l 0) (.v (.c (.d (.int .i64 0))))⟩, ⟨none, .pick (.l 2) (.l 0) (.v (.c (.d (.bool false))))⟩, ⟨none, .mov (.l 0)⟩, ⟨some (0, true), .mov (.r 23)⟩, ⟨some (1, true), .bin .eql (.l 0) (.v (.c (.d (.int .i64 0))))⟩, ⟨none, .pick (.l 2) (.l 0) (.v (.c (.d (.bool false))))⟩, ⟨none, .mov (.l 0)⟩, ⟨some (0, true), .mov (.r 22)⟩, ⟨some (1, true), .len (.l 0)⟩, ⟨some (2, true), .bin .eql (.l 0) (.v (.c (.d (.int .i64 0))))⟩, ⟨none, .pick (.l 3) (.l 0) (.v (.c (.d (.bool false))))⟩, ⟨none, .mov (.l 0)⟩, ⟨some (0, true), .mov (.r 24)⟩, ⟨some (1, true), .bin .eql (.l 0) (.v (.c (.d (.int .i64 3))))⟩, ⟨none, .pick (.l 2) (.l 0) (.v (.c (.d (.bool false))))⟩, ⟨none, .mov (.l 0)⟩, ⟨some (0, true), .mov (.r 25)⟩, ⟨some (1, true), .bin .eql (.l 0) (.v (.c (.d (.int .i64 7))))⟩, ⟨none, .pick (.l 2) (.l 0) (.v (.c (.d (.bool false))))⟩, ⟨none, .mov (.l 0)⟩, ⟨some (0, true), .mov (.r 26)⟩, ⟨some (1, true), .bin .eql (.l 0) (.v (.c (.d (.int .i64 6))))⟩, ⟨none, .pick (.l 2) (.l 0) (.v (.c (.d (.bool false))))⟩, ⟨none, .mov (.l 0)⟩, ⟨some (0, true), .vc 40 []⟩, ⟨none, .pick (.l 1) (.l 0) (.v (.c (.d (.bool false))))⟩, ⟨none, .mov (.l 0)⟩] [(0, 0)] []) ( .ret)))
def fn15'' : Fn := ⟨0, 30, [0, 1, 2, 3, 4, 5, 6, 7, 8, 9, 10, 11, 14, 15, 17, 20, 21, 22, 23, 25, 28, 29, 30, 33, 36, 38, 40, 46, 69, 155], [.r 0], .seq (.reg false [⟨none, .mov (.v (.c (.d (.bool false))))⟩] [(0, 0)] []) ( .seq (.reg false [⟨none, .bld [.str [], .bool false, .int .u8 0, .int .i64 0, .nils] [(0, 1, (.v (.c (.d (.str [110]))))), (2, 1, (.v (.c (.d (.int .u8 1)))))]⟩, ⟨none, .pre⟩, ⟨none, .ini 5 (.l 1)⟩] [(1, 0)] []) ( .seq (.reg false [⟨none, .ld true 5 (.r 1)⟩, ⟨none, .vc 49 [(.l 0)]⟩, ⟨none, .mov (.l 0)⟩] [(2, 0)] []) ( .seq (.reg false [⟨none, .mks 1 1 [.int .u8 0] (.v (.c (.d (.int .i64 0)))) (.v (.c (.d (.int .i64 131072))))⟩, ⟨none, .mov (.l 0)⟩] [(3, 0)] []) ( .seq (.reg false [⟨none, .mov (.v (.c (.d (.int .i64 0))))⟩] [(4, 0)] []) ( .seq (.seq (.reg false [⟨none, .mov (.v (.c (.d (.int .i64 0))))⟩] [(5, 0)] []) ( .block 0 ( .seq (.fresh 3 none 1) ( .loop (some [1, 2, 3, 4, 5]) fn15L1)))) ( .seq (.reg false [⟨none, .mov (.r 3)⟩, ⟨none, .b2s (.l 0)⟩, ⟨none, .mov (.l 0)⟩] [(6, 0)] []) ( .seq (.reg false [⟨none, .mov (.r 6)⟩, ⟨none, .lns (.l 0)⟩, ⟨none, .bin .sub (.l 0) (.v (.c (.d (.int .i64 1))))⟩, ⟨none, .mov (.l 0)⟩] [(7, 0)] []) ( .seq (.block 2 ( .loop (some [1, 6, 7]) fn15L0)) ( .seq (.reg false [⟨none, .mov (.r 6)⟩, ⟨none, .mov (.r 7)⟩, ⟨none, .sls (.l 1) none (some (.l 0))⟩, ⟨none, .vc 37 [(.l 0)]⟩, ⟨none, .mov (.l 0)⟩, ⟨none, .ext (.l 0) 0⟩, ⟨none, .ext (.l 1) 1⟩, ⟨none, .ext (.l 2) 2⟩, ⟨none, .ext (.l 3) 3⟩, ⟨none, .mov (.l 3)⟩, ⟨none, .mov (.l 3)⟩, ⟨none, .mov (.l 3)⟩, ⟨none, .mov (.l 3)⟩] [(8, 3), (9, 2), (10, 1), (11, 0)] []) ( .seq (.reg false [⟨none, .mov (.r 6)⟩, ⟨none, .vc 37 [(.l 0)]⟩, ⟨none, .mov (.l 0)⟩, ⟨none, .ext (.l 0) 0⟩, ⟨none, .ext (.l 1) 1⟩, ⟨none, .ext (.l 2) 2⟩, ⟨none, .ext (.l 3) 3⟩, ⟨none, .mov (.l 3)⟩, ⟨none, .mov (.l 3)⟩, ⟨none, .mov (.l 3)⟩, ⟨none, .mov (.l 3)⟩] [(12, 1), (13, 0)] []) ( .seq (.reg true [⟨none, .mov (.r 6)⟩, ⟨none, .mov (.r 7)⟩, ⟨none, .sls (.l 1) none (some (.l 0))⟩, ⟨none, .ld true 5 (.r 1)⟩, ⟨none, .vc 36 [(.l 1), (.l 0)]⟩, ⟨none, .mov (.l 0)⟩, ⟨none, .ext (.l 0) 0⟩, ⟨none, .ext (.l 1) 1⟩, ⟨none, .mov (.l 1)⟩, ⟨none, .mov (.l 1)⟩] [(14, 0)] []) ( .seq (.reg false [⟨none, .mov (.r 6)⟩, ⟨none, .vc 43 [(.l 0)]⟩, ⟨none, .mov (.l 0)⟩, ⟨none, .ext (.l 0) 0⟩, ⟨none, .ext (.l 1) 1⟩, ⟨none, .ext (.l 2) 2⟩, ⟨none, .mov (.l 2)⟩, ⟨none, .mov (.l 2)⟩, ⟨none, .mov (.l 2)⟩] [(15, 0)] []) ( .seq (.reg false [⟨none, .mov (.r 6)⟩, ⟨none, .mov (.r 7)⟩, ⟨none, .sls (.l 1) none (some (.l 0))⟩, ⟨none, .vc 43 [(.l 0)]⟩, ⟨none, .mov (.l 0)⟩, ⟨none, .ext (.l 0) 0⟩, ⟨none, .ext (.l 1) 1⟩, ⟨none, .ext (.l 2) 2⟩, ⟨none, .mov (.l 2)⟩, ⟨none, .mov (.l 2)⟩, ⟨none, .mov (.l 2)⟩] [(16, 2), (17, 1), (18, 0)] []) ( .seq fn15C ( .seq fn15Z0 ( .seq fn15Z1 ( .seq fn15Z2 ( .seq fn15Z3 fn15T))))))))))))))))))⟩
def primK (f : FuncId) (vs : List V) : Option V := match f with
  | 47 => manyV vs
  | _ => primJ f vs
theorem primK_ok {m : Int} {f : FuncId} {vs : List V} {r : V} (h : primK f vs = some r) : Enters Tryz.prog f ∧ ValCall Tryz.prog (glob0 m) f vs r := by
  unfold primK at h
  split at h
  · exact manyV_ok h
  · exact primJ_ok h
def XK (m : Int) : Ctx := ⟨fnsX, primK, hprim0, fun _ _ _ => none, glob0 m⟩
theorem XK_ok (m : Int) : CtxOk Tryz.prog (XK m) := ⟨fnsX_ok, fun _ _ _ h => primK_ok h, fun _ _ _ _ _ h => hprim0_ok h⟩
theorem XJ_le (m : Int) : CtxLe (XJ m) (XK m) where
  fns := fun h => h
  prim := fun {f vs r} h => by
    show primK f vs = some r
    unfold primK
    split
    · have h' : primJ 47 vs = some r := h
      cases h'
    · exact h
  npr := fun {f F} h vs hp => by
    show primK f vs = none
    unfold primK
    split
    · cases h
    · exact hp
  hprim := fun {f vs H r} h1 h2 => by
    have h3 : hprim0 f vs H = some r := h2
    refine ⟨?_, h2, fun vs hn => ?_⟩
    · cases h47 : fnsX f with
      | none => exact h47
      | some F => exact absurd h1 (by simp [XJ, h47])
    · show primK f vs = none
      unfold primK
      split
      · have h' : hprim0 47 _ H = some r := h3
        cases h'
      · exact hn
  bprim := fun h => by cases h
  glob := rfl
theorem v47 {N n : Nat} (hn : 4096 < n) {cs : List D} : (zenv (XK m) N).vcall 47 [.c (.d (.sl cs n))] = some (.tup [.c (.d .nils), i64 3]) := by
  refine zenv_prim ?_
  show (if 4096 < n then some (V.tup [.c (.d .nils), .c (.d (.int .i64 3))]) else none) = _
  rw [if_pos hn]
  rfl
theorem rep_eC : ∀ n : Nat, rep (([.str [], .bool false, .int .u8 0, .int .i64 0, .nils] : List D).map .d) n = eC (List.replicate n e0)
  | 0 => rfl
  | n + 1 => by
    rw [rep, rep_eC n, List.replicate_succ]
    rfl
theorem zerosJ (n : Nat) : bytesOf (rep [.d (.int .u8 0)] n) = some (List.replicate n 0) := by
  induction n with
  | zero => rfl
  | succ n ih =>
    unfold bytesOf at ih ⊢
    rw [rep, List.singleton_append, mapO, ih]
    rfl
set_option maxRecDepth 100000 in
theorem z150 {N : Nat} {x : Nat → V} {h0 h1 : Ob} : ∃ y, exec (zenv (XK m) N) N false fn15Z0 ⟨[x 0, x 1, x 2, x 3, x 4, x 5, x 6, x 7, x 8, x 9, x 10, x 11, x 12, x 13, x 14, x 15, x 16, x 17, x 18, x 19, x 20, x 21, x 22, x 23, x 24, x 25, x 26, x 27, x 28, x 29], [h0, h1]⟩ = some (.nrm, ⟨[x 0, x 1, x 2, x 3, x 4, x 5, x 6, x 7, x 8, x 9, x 10, x 11, x 12, x 13, x 14, x 15, x 16, x 17, x 18, i64 3, x 20, x 21, x 22, x 23, x 24, x 25, x 26, x 27, x 28, x 29], [h0, h1, .cells y 0 false]⟩) := by
  have key : ∀ n : Nat, n = 4097 → ∃ y, exec (zenv (XK m) N) N false (.reg false [⟨none, .mks 5 56 [.str [], .bool false, .int .u8 0, .int .i64 0, .nils] (.v (i64 (n : Int))) (.v (i64 (n : Int)))⟩, ⟨none, .vc 47 [(.l 0)]⟩, ⟨none, .mov (.l 0)⟩, ⟨none, .ext (.l 0) 0⟩, ⟨none, .ext (.l 1) 1⟩, ⟨none, .mov (.l 1)⟩, ⟨none, .mov (.l 1)⟩] [(19, 0)] []) ⟨[x 0, x 1, x 2, x 3, x 4, x 5, x 6, x 7, x 8, x 9, x 10, x 11, x 12, x 13, x 14, x 15, x 16, x 17, x 18, x 19, x 20, x 21, x 22, x 23, x 24, x 25, x 26, x 27, x 28, x 29], [h0, h1]⟩ = some (.nrm, ⟨[x 0, x 1, x 2, x 3, x 4, x 5, x 6, x 7, x 8, x 9, x 10, x 11, x 12, x 13, x 14, x 15, x 16, x 17, x 18, i64 3, x 20, x 21, x 22, x 23, x 24, x 25, x 26, x 27, x 28, x 29], [h0, h1, .cells y 0 false]⟩) := by
    intro n hn
    have z1 := rep_eC n
    have hdp := deep_en (H := [h0, h1, .cells (eC (List.replicate n e0)) 0 false]) (id := 2) (g := 0) (c := some n) (l := List.replicate n e0) rfl List.length_replicate
    have v := fun cs => v47 (m := m) (N := N) (n := n) (by omega) (cs := cs)
    have k1 : n * 56 ≤ 1099511627776 := by omega
    have gfl : [V.c (.d .nils), V.c (.d (.int .i64 3))].all V.flat1 = true := rfl
    have k2 : n ≤ 1099511627776 := by omega
    simp only [List.map_cons, List.map_nil] at z1
    refine ⟨eC (List.replicate n e0), ?_⟩
    generalize eC (List.replicate n e0) = y at *
    generalize (List.replicate n e0).flatMap En.ds = cs at *
    simp only [i64] at v
    simp only [z1, hdp, v, gfl, k1, k2, Nat.le_refl, List.map_cons, List.map_nil, reachV, List.flatMap_cons, List.flatMap_nil, evs, Nat.reduceAdd]
  exact key 4097 (by omega)
set_option maxRecDepth 100000 in
theorem z151 {N : Nat} (hN : 100 ≤ N) {x : Nat → V} {h0 h1 h2 : Ob} : ∃ y, exec (zenv (XK m) N) N false fn15Z1 ⟨[x 0, x 1, x 2, x 3, x 4, x 5, x 6, x 7, x 8, x 9, x 10, x 11, x 12, x 13, x 14, x 15, x 16, x 17, x 18, x 19, x 20, x 21, x 22, x 23, x 24, x 25, x 26, x 27, x 28, x 29], [h0, h1, h2]⟩ = some (.nrm, ⟨[x 0, x 1, x 2, x 3, x 4, x 5, x 6, x 7, x 8, x 9, x 10, x 11, x 12, x 13, x 14, x 15, x 16, x 17, x 18, x 19, i64 0, i64 3, x 22, x 23, x 24, x 25, x 26, x 27, x 28, x 29], [h0, h1, h2, .cells y 0 false]⟩) := by
  have key : ∀ n : Nat, n = 1048577 → ∃ y, exec (zenv (XK m) N) N false (.reg false [⟨none, .mks 1 1 [.int .u8 0] (.v (i64 (n : Int))) (.v (i64 (n : Int)))⟩, ⟨none, .b2s (.l 0)⟩, ⟨none, .vc 37 [(.l 0)]⟩, ⟨none, .mov (.l 0)⟩, ⟨none, .ext (.l 0) 0⟩, ⟨none, .ext (.l 1) 1⟩, ⟨none, .ext (.l 2) 2⟩, ⟨none, .ext (.l 3) 3⟩, ⟨none, .mov (.l 3)⟩, ⟨none, .mov (.l 3)⟩, ⟨none, .mov (.l 3)⟩, ⟨none, .mov (.l 3)⟩] [(20, 1), (21, 0)] []) ⟨[x 0, x 1, x 2, x 3, x 4, x 5, x 6, x 7, x 8, x 9, x 10, x 11, x 12, x 13, x 14, x 15, x 16, x 17, x 18, x 19, x 20, x 21, x 22, x 23, x 24, x 25, x 26, x 27, x 28, x 29], [h0, h1, h2]⟩ = some (.nrm, ⟨[x 0, x 1, x 2, x 3, x 4, x 5, x 6, x 7, x 8, x 9, x 10, x 11, x 12, x 13, x 14, x 15, x 16, x 17, x 18, x 19, i64 0, i64 3, x 22, x 23, x 24, x 25, x 26, x 27, x 28, x 29], [h0, h1, h2, .cells y 0 false]⟩) := by
    intro n hn
    have v := XOj.vc (XJ_le m) (k := 37) (F := fn37) rfl (f37b (XJ_le m) (N := N) (j := List.replicate n 0) (by omega) (by rw [List.length_replicate]; omega))
    have z1 := zerosJ n
    have z3 := rep_len [.d (.int .u8 0)] n
    rw [List.length_singleton, Nat.mul_one] at z3
    have z5 := List.take_of_length_le (l := rep [.d (.int .u8 0)] n) (i := n) (by omega)
    have k1 : n ≤ 1099511627776 := by omega
    refine ⟨rep [.d (.int .u8 0)] n, ?_⟩
    generalize hy : rep [C.d (.int .u8 0)] n = y at *
    generalize List.replicate n 0 = s at *
    simp only [strV, i64] at v
    simp only [ob?, elems, hy, v, z1, z3, z5, k1, Nat.le_refl, List.drop, List.map_cons, List.map_nil, freeze_nil, reachV, reachC, ite_self, List.flatMap_cons, List.flatMap_nil, evs, Nat.reduceAdd]
  exact key 1048577 (by omega)
set_option maxRecDepth 100000 in
theorem z152 {N : Nat} (hN : 100 ≤ N) {x : Nat → V} {h0 h1 h2 h3 : Ob} : ∃ y, exec (zenv (XK m) N) N false fn15Z2 ⟨[x 0, x 1, x 2, x 3, x 4, x 5, x 6, x 7, x 8, x 9, x 10, x 11, x 12, x 13, x 14, x 15, x 16, x 17, x 18, x 19, x 20, x 21, x 22, x 23, x 24, x 25, x 26, x 27, x 28, x 29], [h0, h1, h2, h3]⟩ = some (.nrm, ⟨[x 0, x 1, x 2, x 3, x 4, x 5, x 6, x 7, x 8, x 9, x 10, x 11, x 12, x 13, x 14, x 15, x 16, x 17, x 18, x 19, x 20, x 21, .c (.d (.sl [] 0)), i64 0, x 24, x 25, x 26, x 27, x 28, x 29], [h0, h1, h2, h3, .cells y 0 false]⟩) := by
  have key : ∀ n : Nat, n = 1048576 → ∃ y, exec (zenv (XK m) N) N false (.reg false [⟨none, .mks 1 1 [.int .u8 0] (.v (i64 (n : Int))) (.v (i64 (n : Int)))⟩, ⟨none, .b2s (.l 0)⟩, ⟨none, .vc 37 [(.l 0)]⟩, ⟨none, .mov (.l 0)⟩, ⟨none, .ext (.l 0) 0⟩, ⟨none, .ext (.l 1) 1⟩, ⟨none, .ext (.l 2) 2⟩, ⟨none, .ext (.l 3) 3⟩, ⟨none, .mov (.l 3)⟩, ⟨none, .mov (.l 3)⟩, ⟨none, .mov (.l 3)⟩, ⟨none, .mov (.l 3)⟩] [(22, 3), (23, 0)] []) ⟨[x 0, x 1, x 2, x 3, x 4, x 5, x 6, x 7, x 8, x 9, x 10, x 11, x 12, x 13, x 14, x 15, x 16, x 17, x 18, x 19, x 20, x 21, x 22, x 23, x 24, x 25, x 26, x 27, x 28, x 29], [h0, h1, h2, h3]⟩ = some (.nrm, ⟨[x 0, x 1, x 2, x 3, x 4, x 5, x 6, x 7, x 8, x 9, x 10, x 11, x 12, x 13, x 14, x 15, x 16, x 17, x 18, x 19, x 20, x 21, .c (.d (.sl [] 0)), i64 0, x 24, x 25, x 26, x 27, x 28, x 29], [h0, h1, h2, h3, .cells y 0 false]⟩) := by
    intro n hn
    have v := XOj.vc (XJ_le m) (k := 37) (F := fn37) rfl (f37z (XJ_le m) (N := N) (j := List.replicate n 0) (by omega) (by rw [List.length_replicate]; omega) (fun h => by cases List.eq_of_mem_replicate h))
    have z1 := zerosJ n
    have z3 := rep_len [.d (.int .u8 0)] n
    rw [List.length_singleton, Nat.mul_one] at z3
    have z5 := List.take_of_length_le (l := rep [.d (.int .u8 0)] n) (i := n) (by omega)
    have k1 : n ≤ 1099511627776 := by omega
    refine ⟨rep [.d (.int .u8 0)] n, ?_⟩
    generalize hy : rep [C.d (.int .u8 0)] n = y at *
    generalize List.replicate n 0 = s at *
    simp only [strV, i64] at v
    simp only [ob?, elems, hy, v, z1, z3, z5, k1, Nat.le_refl, List.drop, List.map_cons, List.map_nil, freeze_nil, reachV, reachC, ite_self, List.flatMap_cons, List.flatMap_nil, evs, Nat.reduceAdd]
  exact key 1048576 (by omega)
set_option maxRecDepth 100000 in
theorem z153 {N : Nat} (hN : 100 ≤ N) {x : Nat → V} {h0 h1 h2 h3 h4 : Ob} : ∃ y, exec (zenv (XK m) N) N false fn15Z3 ⟨[x 0, x 1, x 2, x 3, x 4, x 5, x 6, x 7, x 8, x 9, x 10, x 11, x 12, x 13, x 14, x 15, x 16, x 17, x 18, x 19, x 20, x 21, x 22, x 23, x 24, x 25, x 26, x 27, x 28, x 29], [h0, h1, h2, h3, h4]⟩ = some (.nrm, ⟨[x 0, x 1, x 2, x 3, x 4, x 5, x 6, x 7, x 8, x 9, x 10, x 11, x 12, x 13, x 14, x 15, x 16, x 17, x 18, x 19, x 20, x 21, x 22, x 23, i64 3, x 25, x 26, x 27, x 28, x 29], [h0, h1, h2, h3, h4, .cells y 0 false]⟩) := by
  have key : ∀ n : Nat, n = 1048577 → ∃ y, exec (zenv (XK m) N) N false (.reg false [⟨none, .mks 1 1 [.int .u8 0] (.v (i64 (n : Int))) (.v (i64 (n : Int)))⟩, ⟨none, .b2s (.l 0)⟩, ⟨none, .vc 43 [(.l 0)]⟩, ⟨none, .mov (.l 0)⟩, ⟨none, .ext (.l 0) 0⟩, ⟨none, .ext (.l 1) 1⟩, ⟨none, .ext (.l 2) 2⟩, ⟨none, .mov (.l 2)⟩, ⟨none, .mov (.l 2)⟩, ⟨none, .mov (.l 2)⟩] [(24, 0)] []) ⟨[x 0, x 1, x 2, x 3, x 4, x 5, x 6, x 7, x 8, x 9, x 10, x 11, x 12, x 13, x 14, x 15, x 16, x 17, x 18, x 19, x 20, x 21, x 22, x 23, x 24, x 25, x 26, x 27, x 28, x 29], [h0, h1, h2, h3, h4]⟩ = some (.nrm, ⟨[x 0, x 1, x 2, x 3, x 4, x 5, x 6, x 7, x 8, x 9, x 10, x 11, x 12, x 13, x 14, x 15, x 16, x 17, x 18, x 19, x 20, x 21, x 22, x 23, i64 3, x 25, x 26, x 27, x 28, x 29], [h0, h1, h2, h3, h4, .cells y 0 false]⟩) := by
    intro n hn
    have v := XOj.vc (XJ_le m) (k := 43) (F := fn43) rfl (f43b (XJ_le m) (N := N) (j := List.replicate n 0) (by omega) (by rw [List.length_replicate]; omega))
    have z1 := zerosJ n
    have z3 := rep_len [.d (.int .u8 0)] n
    rw [List.length_singleton, Nat.mul_one] at z3
    have z5 := List.take_of_length_le (l := rep [.d (.int .u8 0)] n) (i := n) (by omega)
    have k1 : n ≤ 1099511627776 := by omega
    refine ⟨rep [.d (.int .u8 0)] n, ?_⟩
    generalize hy : rep [C.d (.int .u8 0)] n = y at *
    generalize List.replicate n 0 = s at *
    simp only [strV, i64] at v
    simp only [ob?, elems, hy, v, z1, z3, z5, k1, Nat.le_refl, List.drop, List.map_cons, List.map_nil, freeze_nil, reachV, reachC, ite_self, List.flatMap_cons, List.flatMap_nil, evs, Nat.reduceAdd]
  exact key 1048577 (by omega)
set_option maxHeartbeats 1000000 in
theorem t15 {N : Nat} (hN : 200000 ≤ N) {x : Nat → V} {HH : Heap} : ∃ r, exec (zenv (XK m) N) N false fn15T ⟨[x 0, x 1, x 2, x 3, x 4, x 5, x 6, x 7, x 8, x 9, x 10, x 11, x 12, x 13, x 14, x 15, x 16, x 17, x 18, i64 3, i64 0, i64 3, .c (.d (.sl [] 0)), i64 0, i64 3, x 25, x 26, x 27, x 28, x 29], HH⟩ = some (.ret, ⟨r, HH⟩) ∧ nth r 0 = bl true := by
  have hlv := f40 (XJ_le m) (N := N) (by omega)
  have hp1 : pJ [120] = ([], 0, 0, 0) := rfl
  have hp2 : pJ [120, 10] = ([], 0, 0, 6) := rfl
  have v1 := XOj.vc (XJ_le m) (k := 36) (F := fn36) rfl (f36s (XJ_le m) (N := N) (j := [120]) (e := e0) (by simp only [List.length_cons, List.length_nil]; omega) (by simp) (by decide) hp1 (by simp))
  have v2 := XOj.vc (XJ_le m) (k := 36) (F := fn36) rfl (f36e (XJ_le m) (N := N) (j := [120, 10]) (e := e0) (by simp only [List.length_cons, List.length_nil]; omega) (by simp) (by decide) hp2 (by simp))
  have g33 : ((3 : Int) == 3) = true := rfl
  have g00 : ((0 : Int) == 0) = true := rfl
  have g77 : ((7 : Int) == 7) = true := rfl
  have g66 : ((6 : Int) == 6) = true := rfl
  simp only [strV, i64, e0, En.ds, List.map_cons, List.map_nil, Int.cast_ofNat_Int] at v1 v2
  refine ⟨[.c (.d (.bool true)), x 1, x 2, x 3, x 4, x 5, x 6, x 7, x 8, x 9, x 10, x 11, x 12, x 13, x 14, x 15, x 16, x 17, x 18, i64 3, i64 0, i64 3, .c (.d (.sl [] 0)), i64 0, i64 3, i64 7, i64 6, x 27, x 28, x 29], ?_, rfl⟩
  simp only [fn15T, lay, v1, v2, hlv, g33, g00, g77, g66, Int.natCast_zero, List.map_cons, List.map_nil, freeze_nil, reachV, reachC, ite_self, List.flatMap_cons, List.flatMap_nil, ↓sp_len, evs]
set_option maxHeartbeats 4000000 in
theorem f15 (m : Int) {N : Nat} (hN : 300000 ≤ N) : vcallN (XK m) N 15 [] = some (bl true) := by
  obtain ⟨N, rfl⟩ : ∃ M, N = M + 1 := ⟨N - 1, by omega⟩
  have hX : XOj m (XK m) := XJ_le m
  have hF : fnsX 15 = some fn15'' := rfl
  suffices h : ∃ H, callN (XK m) (N + 1) (.d (.fn 15 [] [])) [] [] = some (bl true, H) by
    obtain ⟨H, h⟩ := h
    exact vcall_of h rfl
  obtain ⟨n, hn⟩ : ∃ n, n = 4096 := ⟨_, rfl⟩
  have hit := it15 hX (N := N) (n := n + 1) (by omega) (by omega) (h0 := .cells (oneE.ds.map .d) 0 false)
  have hck : chkE [110] false 1 0 [] = 0 := by decide
  have h49 := XOj.vc hX (k := 49) (F := fn49) rfl (f49 hX (N := N) (by omega) (s := [110]) (acc := false) (r := 1) (t := 0) (w := .nils) (l := []) (.inl ⟨rfl, rfl⟩) (fun _ h => by cases h) hck)
  have hbd : bodyE [110] false 1 0 [] = oneE.body := rfl
  rw [hbd] at h49
  have hT : tN (n + 1) = tN n ++ lineT (sN n) oneE ++ [10] := by rw [t_succ, lineE_T, List.append_assoc]
  have hno := line_no (e := oneE) (by decide) (sN n)
  have hll := lineT_len (sN n) (s_lt _)
  have htl := t_len n
  have ht0 : ∃ u, tN n = u ++ [10] := ⟨tN 4095 ++ lineT (sN 4095) oneE, by rw [hn, show (4096 : Nat) = 4095 + 1 from rfl, t_succ, lineE_T, List.append_assoc]⟩
  obtain ⟨u0, ht0⟩ := ht0
  have hne : tN n ≠ [] := by rw [ht0]; simp
  have hlast : (tN n).getLast hne = 10 := by
    have : ∀ (u : List Nat) (h : u ++ [10] ≠ []), (u ++ [10]).getLast h = 10 := fun u h => by simp
    simp only [ht0, this]
  have hb0 := t_byte n
  have hb1 := t_byte (n + 1)
  have hp0 : pJ (tN n) = ((usE n).map newE, (tN n).length, sN n, 0) := pJ_text (us_chk _) (fun e he => (us_wf _ e he).2) (by rw [us_len]; omega)
  have hp1 : pJ (tN (n + 1)) = ((usE n).map newE, (tN n).length, sN n, 3) := by
    rw [hT, List.append_assoc]
    exact pJ_full (us_chk _) (fun e he => (us_wf _ e he).2) ((us_len _).trans hn) hno
  have hl4 : ((usE n).map newE).length = n := by rw [List.length_map, us_len]
  have hlT : (tN (n + 1)).length = (tN n).length + (lineT (sN n) oneE).length + 1 := by rw [hT]; simp; omega
  have hitb := it15b (X := XK m) (N := N) (H := [.cells (oneE.ds.map .d) 0 false, .cells (ofBytes (tN (n + 1))) 0 false]) hne hlast hno (by omega) (by rw [List.length_append]; omega) rfl
  rw [← hT] at hitb
  have v37a := v37 hX (N := N) (j := tN n) (by omega) (by omega) hb0 (by rw [hp0]; show ((usE n).map newE).length ≤ 4096; omega)
  have v37b := v37 hX (N := N) (j := tN (n + 1)) (by omega) (by omega) hb1 (by rw [hp1]; show ((usE n).map newE).length ≤ 4096; omega)
  unfold parV at v37a v37b
  rw [hp0, if_pos rfl, hl4] at v37a
  rw [hp1, if_neg (by simp), hl4] at v37b
  have h36 := XOj.vc hX (k := 36) (F := fn36) rfl (f36l hX (N := N) (j := tN n) (e := oneE) (by omega) (by omega) hb0 hp0 (hl4.trans hn) (.inl ⟨rfl, rfl⟩) (fun _ h => by cases h) (by decide) (by decide) (by decide))
  have h43a := XOj.vc hX (k := 43) (F := fn43) rfl (f43l hX (N := N) (j := tN (n + 1)) (by omega) (by omega) hb1 hp1 (hl4.trans hn))
  have h43b := XOj.vc hX (k := 43) (F := fn43) rfl (f43m hX (N := N) (j := tN n) (by omega) (by omega) hb0 hp0 (Nat.le_refl _))
  rw [hl4, List.take_length] at h43b
  have htk : (tN (n + 1)).take (tN n).length = tN n := by rw [hT, List.append_assoc, List.take_left]
  have hob : (ofBytes (tN (n + 1))).length = (tN (n + 1)).length := by simp [ofBytes]
  have hobt : (ofBytes (tN (n + 1))).take (tN (n + 1)).length = ofBytes (tN (n + 1)) := List.take_of_length_le (by omega)
  have hby : bytesOf (ofBytes (tN (n + 1))) = some (tN (n + 1)) := by
    have : ∀ s : List Nat, (∀ c ∈ s, c < 256) → bytesOf (ofBytes s) = some s := by
      intro s
      induction s with
      | nil => intro _; rfl
      | cons c s ih =>
        intro h
        have h1 := ih (fun x hx => h x (List.mem_cons_of_mem _ hx))
        have h2 := h c List.mem_cons_self
        unfold bytesOf ofBytes at h1 ⊢
        have h3 : byteOf (.d (.int .u8 (Int.ofNat c))) = some c := by
          show some ((Int.ofNat c).toNat % 256) = some c
          congr 1
          show c % 256 = c
          omega
        rw [List.map_cons, mapO, h3, h1]
    exact this _ hb1
  have hw1 : IntKind.i64.wrap (((tN (n + 1)).length : Int) - 1) = (((tN n).length + (lineT (sN n) oneE).length : Nat) : Int) := by
    rw [← wrap_nat (k := (tN n).length + (lineT (sN n) oneE).length) (by omega)]; congr 1; omega
  have hle : (tN n).length ≤ (tN (n + 1)).length := by omega
  have g0 : ((0 : Int) != 0) = false := rfl
  have g3 : ((3 : Int) != 3) = false := rfl
  have g4 : ((n : Int) != 4096) = false := by rw [bne_eq_false_iff_eq]; omega
  have g5 : (((n + 1 : Nat) : Int) != 4097) = false := by rw [bne_eq_false_iff_eq]; omega
  have gll : (((tN n).length : Int) != ((tN n).length : Int)) = false := by simp
  have hod : oneE.ds.map C.d = [.d (.str [110]), .d (.bool false), .d (.int .u8 1), .d (.int .i64 0), .d .nils] := rfl
  rw [hX.fn hF]
  rw [hod] at hit hitb h36
  have hs0 : sN 0 = 0 := rfl
  simp only [X15, Y15, hs0, strV, i64, bl, Int.natCast_zero] at hit hitb
  simp only [strV, i64, enC, Int.cast_ofNat_Int] at h49 v37a v37b h36 h43a h43b
  generalize ((usE n).map newE).flatMap En.ds = ds at *
  generalize hobE : ofBytes (tN (n + 1)) = ob at *
  generalize lineT (sN n) oneE = ln at *
  generalize sN n = s96 at *
  generalize sN (n + 1) = s97 at *
  generalize tN (n + 1) = t1 at *
  generalize tN n = t0 at *
  generalize oneE.body = bo at *
  obtain ⟨y0, hz0⟩ := (show ∃ y, exec (zenv (XK m) N) N false fn15Z0 ⟨[.any, .c (.ptr 0 0 0), .any, .any, .any, .any, .c (.d (.str t1)), .c (.d (.int .i64 (t0.length : Int))), .c (.d (.sl ds n)), .c (.d (.int .i64 (t0.length : Int))), .c (.d (.int .i64 0)), .c (.d (.int .i64 0)), .c (.d (.int .i64 ((n + 1 : Nat) : Int))), .c (.d (.int .i64 3)), .c (.d (.int .i64 3)), .c (.d (.int .i64 3)), .c (.d (.str t0)), .c (.d (.int .i64 (n : Int))), .c (.d (.int .i64 0)), .any, .any, .any, .any, .any, .any, .any, .any, .any, .c (.d (.bool false)), .c (.d (.bool false))], [.cells [.d (.str [110]), .d (.bool false), .d (.int .u8 1), .d (.int .i64 0), .d .nils] 0 false, .cells ob 0 false]⟩ = some (.nrm, ⟨[.any, .c (.ptr 0 0 0), .any, .any, .any, .any, .c (.d (.str t1)), .c (.d (.int .i64 (t0.length : Int))), .c (.d (.sl ds n)), .c (.d (.int .i64 (t0.length : Int))), .c (.d (.int .i64 0)), .c (.d (.int .i64 0)), .c (.d (.int .i64 ((n + 1 : Nat) : Int))), .c (.d (.int .i64 3)), .c (.d (.int .i64 3)), .c (.d (.int .i64 3)), .c (.d (.str t0)), .c (.d (.int .i64 (n : Int))), .c (.d (.int .i64 0)), .c (.d (.int .i64 3)), .any, .any, .any, .any, .any, .any, .any, .any, .c (.d (.bool false)), .c (.d (.bool false))], [.cells [.d (.str [110]), .d (.bool false), .d (.int .u8 1), .d (.int .i64 0), .d .nils] 0 false, .cells ob 0 false, .cells y 0 false]⟩) from z150 (x := fun i => nth [.any, .c (.ptr 0 0 0), .any, .any, .any, .any, .c (.d (.str t1)), .c (.d (.int .i64 (t0.length : Int))), .c (.d (.sl ds n)), .c (.d (.int .i64 (t0.length : Int))), .c (.d (.int .i64 0)), .c (.d (.int .i64 0)), .c (.d (.int .i64 ((n + 1 : Nat) : Int))), .c (.d (.int .i64 3)), .c (.d (.int .i64 3)), .c (.d (.int .i64 3)), .c (.d (.str t0)), .c (.d (.int .i64 (n : Int))), .c (.d (.int .i64 0)), .any, .any, .any, .any, .any, .any, .any, .any, .any, .c (.d (.bool false)), .c (.d (.bool false))] i))
  obtain ⟨y1, hz1⟩ := (show ∃ y, exec (zenv (XK m) N) N false fn15Z1 ⟨[.any, .c (.ptr 0 0 0), .any, .any, .any, .any, .c (.d (.str t1)), .c (.d (.int .i64 (t0.length : Int))), .c (.d (.sl ds n)), .c (.d (.int .i64 (t0.length : Int))), .c (.d (.int .i64 0)), .c (.d (.int .i64 0)), .c (.d (.int .i64 ((n + 1 : Nat) : Int))), .c (.d (.int .i64 3)), .c (.d (.int .i64 3)), .c (.d (.int .i64 3)), .c (.d (.str t0)), .c (.d (.int .i64 (n : Int))), .c (.d (.int .i64 0)), .c (.d (.int .i64 3)), .any, .any, .any, .any, .any, .any, .any, .any, .c (.d (.bool false)), .c (.d (.bool false))], [.cells [.d (.str [110]), .d (.bool false), .d (.int .u8 1), .d (.int .i64 0), .d .nils] 0 false, .cells ob 0 false, .cells y0 0 false]⟩ = some (.nrm, ⟨[.any, .c (.ptr 0 0 0), .any, .any, .any, .any, .c (.d (.str t1)), .c (.d (.int .i64 (t0.length : Int))), .c (.d (.sl ds n)), .c (.d (.int .i64 (t0.length : Int))), .c (.d (.int .i64 0)), .c (.d (.int .i64 0)), .c (.d (.int .i64 ((n + 1 : Nat) : Int))), .c (.d (.int .i64 3)), .c (.d (.int .i64 3)), .c (.d (.int .i64 3)), .c (.d (.str t0)), .c (.d (.int .i64 (n : Int))), .c (.d (.int .i64 0)), .c (.d (.int .i64 3)), .c (.d (.int .i64 0)), .c (.d (.int .i64 3)), .any, .any, .any, .any, .any, .any, .c (.d (.bool false)), .c (.d (.bool false))], [.cells [.d (.str [110]), .d (.bool false), .d (.int .u8 1), .d (.int .i64 0), .d .nils] 0 false, .cells ob 0 false, .cells y0 0 false, .cells y 0 false]⟩) from z151 (by omega) (x := fun i => nth [.any, .c (.ptr 0 0 0), .any, .any, .any, .any, .c (.d (.str t1)), .c (.d (.int .i64 (t0.length : Int))), .c (.d (.sl ds n)), .c (.d (.int .i64 (t0.length : Int))), .c (.d (.int .i64 0)), .c (.d (.int .i64 0)), .c (.d (.int .i64 ((n + 1 : Nat) : Int))), .c (.d (.int .i64 3)), .c (.d (.int .i64 3)), .c (.d (.int .i64 3)), .c (.d (.str t0)), .c (.d (.int .i64 (n : Int))), .c (.d (.int .i64 0)), .c (.d (.int .i64 3)), .any, .any, .any, .any, .any, .any, .any, .any, .c (.d (.bool false)), .c (.d (.bool false))] i))
  obtain ⟨y2, hz2⟩ := (show ∃ y, exec (zenv (XK m) N) N false fn15Z2 ⟨[.any, .c (.ptr 0 0 0), .any, .any, .any, .any, .c (.d (.str t1)), .c (.d (.int .i64 (t0.length : Int))), .c (.d (.sl ds n)), .c (.d (.int .i64 (t0.length : Int))), .c (.d (.int .i64 0)), .c (.d (.int .i64 0)), .c (.d (.int .i64 ((n + 1 : Nat) : Int))), .c (.d (.int .i64 3)), .c (.d (.int .i64 3)), .c (.d (.int .i64 3)), .c (.d (.str t0)), .c (.d (.int .i64 (n : Int))), .c (.d (.int .i64 0)), .c (.d (.int .i64 3)), .c (.d (.int .i64 0)), .c (.d (.int .i64 3)), .any, .any, .any, .any, .any, .any, .c (.d (.bool false)), .c (.d (.bool false))], [.cells [.d (.str [110]), .d (.bool false), .d (.int .u8 1), .d (.int .i64 0), .d .nils] 0 false, .cells ob 0 false, .cells y0 0 false, .cells y1 0 false]⟩ = some (.nrm, ⟨[.any, .c (.ptr 0 0 0), .any, .any, .any, .any, .c (.d (.str t1)), .c (.d (.int .i64 (t0.length : Int))), .c (.d (.sl ds n)), .c (.d (.int .i64 (t0.length : Int))), .c (.d (.int .i64 0)), .c (.d (.int .i64 0)), .c (.d (.int .i64 ((n + 1 : Nat) : Int))), .c (.d (.int .i64 3)), .c (.d (.int .i64 3)), .c (.d (.int .i64 3)), .c (.d (.str t0)), .c (.d (.int .i64 (n : Int))), .c (.d (.int .i64 0)), .c (.d (.int .i64 3)), .c (.d (.int .i64 0)), .c (.d (.int .i64 3)), .c (.d (.sl [] 0)), .c (.d (.int .i64 0)), .any, .any, .any, .any, .c (.d (.bool false)), .c (.d (.bool false))], [.cells [.d (.str [110]), .d (.bool false), .d (.int .u8 1), .d (.int .i64 0), .d .nils] 0 false, .cells ob 0 false, .cells y0 0 false, .cells y1 0 false, .cells y 0 false]⟩) from z152 (by omega) (x := fun i => nth [.any, .c (.ptr 0 0 0), .any, .any, .any, .any, .c (.d (.str t1)), .c (.d (.int .i64 (t0.length : Int))), .c (.d (.sl ds n)), .c (.d (.int .i64 (t0.length : Int))), .c (.d (.int .i64 0)), .c (.d (.int .i64 0)), .c (.d (.int .i64 ((n + 1 : Nat) : Int))), .c (.d (.int .i64 3)), .c (.d (.int .i64 3)), .c (.d (.int .i64 3)), .c (.d (.str t0)), .c (.d (.int .i64 (n : Int))), .c (.d (.int .i64 0)), .c (.d (.int .i64 3)), .c (.d (.int .i64 0)), .c (.d (.int .i64 3)), .any, .any, .any, .any, .any, .any, .c (.d (.bool false)), .c (.d (.bool false))] i))
  obtain ⟨y3, hz3⟩ := (show ∃ y, exec (zenv (XK m) N) N false fn15Z3 ⟨[.any, .c (.ptr 0 0 0), .any, .any, .any, .any, .c (.d (.str t1)), .c (.d (.int .i64 (t0.length : Int))), .c (.d (.sl ds n)), .c (.d (.int .i64 (t0.length : Int))), .c (.d (.int .i64 0)), .c (.d (.int .i64 0)), .c (.d (.int .i64 ((n + 1 : Nat) : Int))), .c (.d (.int .i64 3)), .c (.d (.int .i64 3)), .c (.d (.int .i64 3)), .c (.d (.str t0)), .c (.d (.int .i64 (n : Int))), .c (.d (.int .i64 0)), .c (.d (.int .i64 3)), .c (.d (.int .i64 0)), .c (.d (.int .i64 3)), .c (.d (.sl [] 0)), .c (.d (.int .i64 0)), .any, .any, .any, .any, .c (.d (.bool false)), .c (.d (.bool false))], [.cells [.d (.str [110]), .d (.bool false), .d (.int .u8 1), .d (.int .i64 0), .d .nils] 0 false, .cells ob 0 false, .cells y0 0 false, .cells y1 0 false, .cells y2 0 false]⟩ = some (.nrm, ⟨[.any, .c (.ptr 0 0 0), .any, .any, .any, .any, .c (.d (.str t1)), .c (.d (.int .i64 (t0.length : Int))), .c (.d (.sl ds n)), .c (.d (.int .i64 (t0.length : Int))), .c (.d (.int .i64 0)), .c (.d (.int .i64 0)), .c (.d (.int .i64 ((n + 1 : Nat) : Int))), .c (.d (.int .i64 3)), .c (.d (.int .i64 3)), .c (.d (.int .i64 3)), .c (.d (.str t0)), .c (.d (.int .i64 (n : Int))), .c (.d (.int .i64 0)), .c (.d (.int .i64 3)), .c (.d (.int .i64 0)), .c (.d (.int .i64 3)), .c (.d (.sl [] 0)), .c (.d (.int .i64 0)), .c (.d (.int .i64 3)), .any, .any, .any, .c (.d (.bool false)), .c (.d (.bool false))], [.cells [.d (.str [110]), .d (.bool false), .d (.int .u8 1), .d (.int .i64 0), .d .nils] 0 false, .cells ob 0 false, .cells y0 0 false, .cells y1 0 false, .cells y2 0 false, .cells y 0 false]⟩) from z153 (by omega) (x := fun i => nth [.any, .c (.ptr 0 0 0), .any, .any, .any, .any, .c (.d (.str t1)), .c (.d (.int .i64 (t0.length : Int))), .c (.d (.sl ds n)), .c (.d (.int .i64 (t0.length : Int))), .c (.d (.int .i64 0)), .c (.d (.int .i64 0)), .c (.d (.int .i64 ((n + 1 : Nat) : Int))), .c (.d (.int .i64 3)), .c (.d (.int .i64 3)), .c (.d (.int .i64 3)), .c (.d (.str t0)), .c (.d (.int .i64 (n : Int))), .c (.d (.int .i64 0)), .c (.d (.int .i64 3)), .c (.d (.int .i64 0)), .c (.d (.int .i64 3)), .c (.d (.sl [] 0)), .c (.d (.int .i64 0)), .any, .any, .any, .any, .c (.d (.bool false)), .c (.d (.bool false))] i))
  obtain ⟨r, ht, hr⟩ := (show ∃ r, exec (zenv (XK m) N) N false fn15T ⟨[.any, .c (.ptr 0 0 0), .any, .any, .any, .any, .c (.d (.str t1)), .c (.d (.int .i64 (t0.length : Int))), .c (.d (.sl ds n)), .c (.d (.int .i64 (t0.length : Int))), .c (.d (.int .i64 0)), .c (.d (.int .i64 0)), .c (.d (.int .i64 ((n + 1 : Nat) : Int))), .c (.d (.int .i64 3)), .c (.d (.int .i64 3)), .c (.d (.int .i64 3)), .c (.d (.str t0)), .c (.d (.int .i64 (n : Int))), .c (.d (.int .i64 0)), .c (.d (.int .i64 3)), .c (.d (.int .i64 0)), .c (.d (.int .i64 3)), .c (.d (.sl [] 0)), .c (.d (.int .i64 0)), .c (.d (.int .i64 3)), .any, .any, .any, .c (.d (.bool false)), .c (.d (.bool false))], [.cells [.d (.str [110]), .d (.bool false), .d (.int .u8 1), .d (.int .i64 0), .d .nils] 0 false, .cells ob 0 false, .cells y0 0 false, .cells y1 0 false, .cells y2 0 false, .cells y3 0 false]⟩ = some (.ret, ⟨r, [.cells [.d (.str [110]), .d (.bool false), .d (.int .u8 1), .d (.int .i64 0), .d .nils] 0 false, .cells ob 0 false, .cells y0 0 false, .cells y1 0 false, .cells y2 0 false, .cells y3 0 false]⟩) ∧ nth r 0 = bl true from t15 (by omega) (x := fun i => nth [.any, .c (.ptr 0 0 0), .any, .any, .any, .any, .c (.d (.str t1)), .c (.d (.int .i64 (t0.length : Int))), .c (.d (.sl ds n)), .c (.d (.int .i64 (t0.length : Int))), .c (.d (.int .i64 0)), .c (.d (.int .i64 0)), .c (.d (.int .i64 ((n + 1 : Nat) : Int))), .c (.d (.int .i64 3)), .c (.d (.int .i64 3)), .c (.d (.int .i64 3)), .c (.d (.str t0)), .c (.d (.int .i64 (n : Int))), .c (.d (.int .i64 0)), .c (.d (.int .i64 3)), .c (.d (.int .i64 0)), .c (.d (.int .i64 3)), .c (.d (.sl [] 0)), .c (.d (.int .i64 0)), .c (.d (.int .i64 3)), .any, .any, .any, .c (.d (.bool false)), .c (.d (.bool false))] i))
  simp only [bl] at hr
  refine ⟨[.cells [.d (.str [110]), .d (.bool false), .d (.int .u8 1), .d (.int .i64 0), .d .nils] 0 false, .cells ob 0 false, .cells y0 0 false, .cells y1 0 false, .cells y2 0 false, .cells y3 0 false], (rf_fin _ _ _ _ _ _ _ _ _ (by rfl)).trans ?_⟩
  have hfrn : ∀ (regs : List V) (H : Heap), frn (.c (.os 1 0 0 0 1 (some 131072))) 3 1 regs H = ⟨regs, H⟩ := fun _ _ => rfl
  have hr0 : rep (([.int .u8 0] : List D).map .d) 0 = [] := rfl
  simp only [List.map_cons, List.map_nil] at hr0
  have anC : asNat (.c (.d (.int .i64 131072))) = some 131072 := rfl
  have anL : (131072 : Nat) ≤ 1099511627776 := by omega
  simp only [fn15C, anC, anL, optNat, ob?, elems, lay, rep, splice, ex_fresh, hfrn, h49, hit, hitb, hby, hob, hobt, hw1, htk, hle, v37a, v37b, h36, h43a, h43b, hz0, hz1, hz2, hz3, ht, hr, g0, g3, g4, g5, gll, Option.map_none, Option.map_some, Nat.zero_le, Nat.le_refl, Nat.mul_one, List.take, List.drop, List.map_cons, List.map_nil, List.cons_append, List.nil_append, freeze_nil, reachV, reachC, ite_self, List.flatMap_cons, List.flatMap_nil, ↓sp_len, evs, Nat.reduceAdd, Nat.reduceLeDiff, Nat.reduceBEq, Nat.reduceSub]
end Mini
end Go.Proofs.YtgjlofpfbhioaaaGreatDoor
