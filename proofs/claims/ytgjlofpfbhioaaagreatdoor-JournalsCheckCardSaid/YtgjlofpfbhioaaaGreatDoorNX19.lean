/-
  JournalsCheck: texts of the proof, part 20.
-/
import Derived.Test.YtgjlofpfbhioaaaGreatDoorNX18
namespace Go.Proofs.YtgjlofpfbhioaaaGreatDoor
namespace Mini
open Go
variable {m : Int} {X : Ctx}
def zE : List C := [.d (.str []), .d (.bool false), .d (.int .u8 0), .d (.int .i64 0), .d .nils]
theorem rg_ap (ts : List V) (H : Heap) (E : Env) (regs : List V) (exp : List (Nat × Nat)) (a b : A) (aps : List (A × A)) : regc (some (ts, H)) E regs exp ((a, b) :: aps) = if apart (look E regs ts a) (look E regs ts b) = true then regc (some (ts, H)) E regs exp aps else none := by
  by_cases h : apart (look E regs ts a) (look E regs ts b) = true
  · simp only [regc, List.all_cons, h, Bool.true_and, if_true]
  · simp only [regc, List.all_cons, h, Bool.false_and]
    rfl
end Mini
end Go.Proofs.YtgjlofpfbhioaaaGreatDoor
namespace Go.Proofs.YtgjlofpfbhioaaaGreatDoor
namespace Mini
open Go
variable {m : Int} {X : Ctx}
def eC (l : List En) : List C := (l.flatMap En.ds).map .d
theorem eC_len (l : List En) : (eC l).length = l.length * 5 := by
  rw [eC, List.length_map, flD_len (k := 5) (fun _ _ => rfl)]
theorem eC_snoc (l : List En) (e : En) : eC (l ++ [e]) = eC l ++ e.ds.map .d := by simp [eC]
theorem eC_u (n : Nat) (l : List En) : (eC l).all (uC n) = true := by
  rw [List.all_eq_true]
  intro c hc
  obtain ⟨d, _, rfl⟩ := List.mem_map.1 hc
  rfl
end Mini
end Go.Proofs.YtgjlofpfbhioaaaGreatDoor
namespace Go.Proofs.YtgjlofpfbhioaaaGreatDoor
namespace Mini
open Go
variable {m : Int} {X : Ctx}
def fn99A : I := .reg false [⟨none, .mov (.r 17)⟩] [(8, 0)] []
def fn99B : I := .block 2 ( .seq (.reg false [⟨none, .mov (.r 8)⟩, ⟨none, .vc 94 [(.l 0)]⟩, ⟨none, .mov (.l 0)⟩, ⟨none, .ext (.l 0) 0⟩, ⟨none, .ext (.l 1) 1⟩, ⟨none, .pre⟩, ⟨none, .ini 17 (.l 2)⟩, ⟨none, .mov (.l 2)⟩] [(9, 1), (10, 0)] []) ( .seq (.seq (.reg false [⟨none, .mov (.r 10)⟩, ⟨none, .bin .neq (.l 0) (.v (.c (.d (.int .i64 0))))⟩] [(18, 0)] []) ( .cond (.r 18) ( .seq (.reg false [⟨none, .bld [.str [], .bool false, .int .u8 0, .int .i64 0, .nils] []⟩, ⟨none, .st 5 (.r 1) (.l 0)⟩, ⟨none, .st 1 (.r 2) (.v (.c (.d (.int .i64 0))))⟩, ⟨none, .st 1 (.r 3) (.v (.c (.d (.bool false))))⟩] [] []) ( .ret)) ( .skip))) ( .reg false [⟨none, .fa 4 (.r 6)⟩, ⟨none, .ld false 1 (.l 0)⟩, ⟨none, .ld true 17 (.r 9)⟩, ⟨none, .bsl 1 17 [.int .u8 0, .int .u32 0, .int .u32 0, .int .u32 0, .int .u32 0, .int .u32 0, .int .u32 0, .int .u32 0, .int .u32 0, .int .u32 0, .int .u32 0, .int .u32 0, .int .u32 0, .int .u32 0, .int .u32 0, .int .u32 0, .int .u32 0] [(0, 17, (.l 0))]⟩, ⟨none, .app 17 (.l 2) (.l 0)⟩, ⟨none, .fa 4 (.r 6)⟩, ⟨none, .st 1 (.l 0) (.l 1)⟩] [] [])))
def fn99'' : Fn := ⟨1, 23, [0, 2, 3, 4, 5, 6, 7, 8, 9, 10, 11, 12, 18, 35, 39, 49, 53, 54, 61, 69, 79, 87, 102], [.cell 1 5 true, .cell 2 1 false, .cell 3 1 false], .seq (.reg false [⟨none, .new [.str [], .bool false, .int .u8 0, .int .i64 0, .nils]⟩, ⟨none, .new [.int .i64 0]⟩, ⟨none, .new [.bool false]⟩] [(1, 2), (2, 1), (3, 0)] []) ( .seq (.reg false [⟨none, .mov (.r 0)⟩, ⟨none, .pc 92 [(.l 0), (.v (.c (.d (.str [32]))))]⟩, ⟨none, .mov (.l 0)⟩] [(4, 0)] []) ( .seq (.reg false [⟨none, .mov (.r 4)⟩, ⟨none, .len (.l 0)⟩, ⟨none, .mov (.l 0)⟩] [(5, 0)] []) ( .seq (.seq (.reg false [⟨none, .mov (.r 5)⟩, ⟨none, .bin .lss (.l 0) (.v (.c (.d (.int .i64 4))))⟩] [(12, 0)] []) ( .cond (.r 12) ( .seq (.reg false [⟨none, .bld [.str [], .bool false, .int .u8 0, .int .i64 0, .nils] []⟩, ⟨none, .st 5 (.r 1) (.l 0)⟩, ⟨none, .st 1 (.r 2) (.v (.c (.d (.int .i64 0))))⟩, ⟨none, .st 1 (.r 3) (.v (.c (.d (.bool false))))⟩] [] []) ( .ret)) ( .skip))) ( .seq (.reg true [⟨none, .mov (.r 4)⟩, ⟨none, .ixa 1 (.l 0) (.v (.c (.d (.int .i64 0))))⟩, ⟨none, .ld false 1 (.l 0)⟩, ⟨none, .mov (.r 4)⟩, ⟨none, .ixa 1 (.l 0) (.v (.c (.d (.int .i64 1))))⟩, ⟨none, .ld false 1 (.l 0)⟩, ⟨none, .bin .eql (.l 0) (.v (.c (.d (.str [97, 99, 99, 101, 112, 116, 101, 100]))))⟩, ⟨none, .bld [.str [], .bool false, .int .u8 0, .int .i64 0, .nils] [(0, 1, (.l 4)), (1, 1, (.l 0))]⟩, ⟨none, .pre⟩, ⟨none, .ini 5 (.l 1)⟩] [(6, 0)] []) ( .seq (.reg false [⟨none, .mov (.r 4)⟩, ⟨none, .mov (.r 5)⟩, ⟨none, .bin .sub (.l 0) (.v (.c (.d (.int .i64 1))))⟩, ⟨none, .ixa 1 (.l 2) (.l 0)⟩, ⟨none, .ld false 1 (.l 0)⟩, ⟨none, .pc 122 [(.l 0), (.v (.c (.d (.int .i64 5))))]⟩, ⟨none, .mov (.l 0)⟩] [(7, 0)] []) ( .seq (.block 0 ( .seq (.reg false [⟨none, .mov (.r 7)⟩, ⟨none, .bin .lss (.l 0) (.v (.c (.d (.int .i64 0))))⟩, ⟨none, .mov (.l 0)⟩] [(13, 0)] []) ( .cond (.r 13) ( .seq (.reg false [⟨none, .bld [.str [], .bool false, .int .u8 0, .int .i64 0, .nils] []⟩, ⟨none, .st 5 (.r 1) (.l 0)⟩, ⟨none, .st 1 (.r 2) (.v (.c (.d (.int .i64 0))))⟩, ⟨none, .st 1 (.r 3) (.v (.c (.d (.bool false))))⟩] [] []) ( .ret)) ( .seq (.reg false [⟨none, .fa 1 (.r 6)⟩, ⟨none, .ld false 1 (.l 0)⟩, ⟨none, .mov (.l 0)⟩, ⟨some (0, true), .mov (.r 5)⟩, ⟨some (1, true), .bin .eql (.l 0) (.v (.c (.d (.int .i64 4))))⟩, ⟨none, .pick (.l 2) (.l 0) (.v (.c (.d (.bool false))))⟩, ⟨none, .mov (.l 0)⟩] [(14, 0)] []) ( .cond (.r 14) ( .seq (.seq (.reg false [⟨none, .mov (.r 4)⟩, ⟨none, .ixa 1 (.l 0) (.v (.c (.d (.int .i64 2))))⟩, ⟨none, .ld false 1 (.l 0)⟩, ⟨none, .bin .eql (.l 0) (.v (.c (.d (.str [45]))))⟩] [(15, 0)] []) ( .cond (.r 15) ( .exit 0) ( .skip))) ( .seq (.reg false [⟨none, .mov (.r 4)⟩, ⟨none, .ixa 1 (.l 0) (.v (.c (.d (.int .i64 2))))⟩, ⟨none, .ld false 1 (.l 0)⟩, ⟨none, .hc (.v (.c (.d (.fn 93 [] [])))) [(.l 0), (.v (.c (.d (.str [44]))))]⟩] [(16, 0)] []) ( .block 1 ( .seq (.fresh 6 (some 4) 17) ( .rf (.r 16) [17] fn99A fn99B))))) ( .seq (.reg false [⟨none, .mov (.r 4)⟩, ⟨none, .ixa 1 (.l 0) (.v (.c (.d (.int .i64 1))))⟩, ⟨none, .ld false 1 (.l 0)⟩, ⟨none, .bin .eql (.l 0) (.v (.c (.d (.str [114, 101, 106, 101, 99, 116, 101, 100]))))⟩, ⟨none, .mov (.l 0)⟩, ⟨some (0, true), .mov (.r 5)⟩, ⟨some (1, true), .bin .eql (.l 0) (.v (.c (.d (.int .i64 5))))⟩, ⟨none, .pick (.l 2) (.l 0) (.v (.c (.d (.bool false))))⟩, ⟨none, .mov (.l 0)⟩] [(19, 0)] []) ( .cond (.r 19) ( .seq (.seq (.reg false [⟨none, .mov (.v (.c (.d (.int .u8 1))))⟩] [(11, 0)] []) ( .block 3 ( .loop (some [1, 2, 3, 4, 6, 7, 11]) fn99L0))) ( .seq (.reg false [⟨none, .mov (.r 4)⟩, ⟨none, .ixa 1 (.l 0) (.v (.c (.d (.int .i64 3))))⟩, ⟨none, .ld false 1 (.l 0)⟩, ⟨none, .pc 122 [(.l 0), (.v (.c (.d (.int .i64 3))))]⟩, ⟨none, .fa 3 (.r 6)⟩, ⟨none, .st 1 (.l 0) (.l 1)⟩] [] []) ( .seq (.reg false [⟨none, .fa 2 (.r 6)⟩, ⟨none, .ld false 1 (.l 0)⟩, ⟨none, .bin .eql (.l 0) (.v (.c (.d (.int .u8 0))))⟩, ⟨none, .mov (.l 0)⟩, ⟨some (0, false), .fa 3 (.r 6)⟩, ⟨some (1, false), .ld false 1 (.l 0)⟩, ⟨some (2, false), .bin .lss (.l 0) (.v (.c (.d (.int .i64 0))))⟩, ⟨none, .pick (.l 3) (.v (.c (.d (.bool true)))) (.l 0)⟩] [(22, 0)] []) ( .cond (.r 22) ( .seq (.reg false [⟨none, .bld [.str [], .bool false, .int .u8 0, .int .i64 0, .nils] []⟩, ⟨none, .st 5 (.r 1) (.l 0)⟩, ⟨none, .st 1 (.r 2) (.v (.c (.d (.int .i64 0))))⟩, ⟨none, .st 1 (.r 3) (.v (.c (.d (.bool false))))⟩] [] []) ( .ret)) ( .skip))))) ( .seq (.reg false [⟨none, .bld [.str [], .bool false, .int .u8 0, .int .i64 0, .nils] []⟩, ⟨none, .st 5 (.r 1) (.l 0)⟩, ⟨none, .st 1 (.r 2) (.v (.c (.d (.int .i64 0))))⟩, ⟨none, .st 1 (.r 3) (.v (.c (.d (.bool false))))⟩] [] []) ( .ret))))))))) ( .seq (.reg false [⟨none, .ld true 5 (.r 6)⟩, ⟨none, .mov (.r 7)⟩, ⟨none, .st 5 (.r 1) (.l 1)⟩, ⟨none, .st 1 (.r 2) (.l 1)⟩, ⟨none, .st 1 (.r 3) (.v (.c (.d (.bool true))))⟩] [] []) ( .ret))))))))⟩
def enK (name : List Nat) (c : C) : List C := [.d (.str name), .d (.bool true), .d (.int .u8 0), .d (.int .i64 0), c]
abbrev fnSj : C := .fn 148 [] [.ptr 5 0 0, .ptr 4 0 0, .ptr 6 0 0]
abbrev regs99 (s : List Nat) (q : List (List Nat)) (st : Int) : List V := [strV s, .c (.ptr 0 0 0), .c (.ptr 1 0 0), .c (.ptr 2 0 0), .c (.d (slS q)), i64 4, .c (.ptr 3 0 0), i64 st, .any, .any, .any, .any, bl false, bl false, bl true, bl false, .c fnSj, .any, .any, .any, .any, .any, .any]
def hp99 (s : List Nat) (q : List (List Nat)) (st : Int) (name : List Nat) (ps : List (List Nat)) (r : List Nat) (j : Nat) (t : Bool) : Heap := [.cells zE 0 false, .cells [.d (.int .i64 0)] 0 false, .cells [.d (.bool false)] 0 false, .cells (enK name (.os 7 j 0 j 17 none)) 0 false, .cells [.d (.str r)] 0 false, .cells [.d (.str [44])] 0 false, .cells [.d (.int .i64 0)] 0 false, .cells (flC (osP ps j)) j false, .loop t none (regs99 s q st) [17] fn99A fn99B]
theorem yl99 (hX : XOj m X) {N : Nat} {s : List Nat} {q : List (List Nat)} {st : Int} {name r : List Nat} {ps : List (List Nat)} {j : Nat} (hN : (ps.getD j []).length + 70 ≤ N) (hj : j < ps.length) (hl : (ps.getD j []).length < 1000000) (hj2 : j + 1 < 900000) (hp : (parseO (ps.getD j [])).2 = 0) :
    ∃ t, callN X N (.yld 8) [strV (ps.getD j [])] (hp99 s q st name ps r j true) = some (bl true, hp99 s q st name ps r (j + 1) true ++ t) := by
  obtain ⟨N, rfl⟩ : ∃ M, N = M + 1 := ⟨N - 1, by omega⟩
  have h94 := hX.x.vc (k := 94) (F := fn94) rfl (f94 hX.x (N := N) (s := ps.getD j []) (by omega) (by omega))
  have hwf := parseO_wf (ps.getD j [])
  have hos := osP_succ ps hj
  have hlo := osP_len ps (j := j) (by omega)
  have hfl := flC_len (osP_wf ps j)
  rw [hlo] at hfl
  rw [hp] at h94
  unfold hp99
  rw [hos]
  generalize (parseO (ps.getD j [])).1 = o at *
  generalize osP ps j = l at *
  generalize ps.getD j [] = x at *
  have h6 := oC_len hwf
  have hd : ∀ o : Oid, List.map C.d (oD o) = oC o := fun _ => rfl
  have hap : flC (l ++ [o]) = flC l ++ oC o := by rw [flC_app, flC_one]
  have htk : (flC l).take (j * 17) = flC l := List.take_of_length_le (by omega)
  have hl1 := lay1 hwf
  have k1 : j + 1 ≤ 1073741824 := by omega
  have k2 : j + 1 < genK := by show j + 1 < 1000000; omega
  have hfo := oC_flat o
  rw [hap]
  simp only [strV, i64, Int.natCast_zero] at h94
  refine ⟨[.cells (oC o) 0 false, .cells (oC o) 0 false], ?_⟩
  refine (callN_yld (X := X) (n := N) (id := 8) (p := 17) (regs := regs99 s q st) (regs1 := regs99 s q st) (regs2 := regs99 s q st) (ps1 := [17]) (ps2 := [17]) (asg := fn99A) (body := fn99B) (asg1 := fn99A) (body1 := fn99B) (asg2 := fn99A) (body2 := fn99B) (s1 := ⟨[strV s, .c (.ptr 0 0 0), .c (.ptr 1 0 0), .c (.ptr 2 0 0), .c (.d (slS q)), i64 4, .c (.ptr 3 0 0), i64 st, strV x, .any, .any, .any, bl false, bl false, bl true, bl false, .c fnSj, strV x, .any, .any, .any, .any, .any], [.cells zE 0 false, .cells [.d (.int .i64 0)] 0 false, .cells [.d (.bool false)] 0 false, .cells (enK name (.os 7 j 0 j 17 none)) 0 false, .cells [.d (.str r)] 0 false, .cells [.d (.str [44])] 0 false, .cells [.d (.int .i64 0)] 0 false, .cells (flC l) j false, .loop true none (regs99 s q st) [17] fn99A fn99B]⟩)
    (s2 := ⟨[strV s, .c (.ptr 0 0 0), .c (.ptr 1 0 0), .c (.ptr 2 0 0), .c (.d (slS q)), i64 4, .c (.ptr 3 0 0), i64 st, strV x, .c (.ptr 9 0 0), i64 0, .any, bl false, bl false, bl true, bl false, .c fnSj, strV x, bl false, .any, .any, .any, .any], [.cells zE 0 false, .cells [.d (.int .i64 0)] 0 false, .cells [.d (.bool false)] 0 false, .cells (enK name (.os 7 (j + 1) 0 (j + 1) 17 none)) 0 false, .cells [.d (.str r)] 0 false, .cells [.d (.str [44])] 0 false, .cells [.d (.int .i64 0)] 0 false, .cells (flC l ++ oC o) (j + 1) false, .loop false none (regs99 s q st) [17] fn99A fn99B, .cells (oC o) 0 false, .cells (oC o) 0 false]⟩) (e := .nrm) rfl ?_ rfl ?_ rfl).trans rfl
  · simp only [fn99A, evs]
  · simp only [fn99B, zE, ob?, strV, enK, elems, splice, h94, h6, hfl, htk, hl1, k1, k2, List.take, List.drop, List.take_of_length_le (Nat.le_of_eq h6), List.set_cons_zero, List.set_cons_succ, List.map_cons, List.map_nil, freeze_nil, reachV, reachC, ite_self, List.flatMap_cons, List.flatMap_nil, Nat.le_refl, Nat.one_ne_zero, evs, Nat.reduceAdd]
theorem yl99b (hX : XOj m X) {N : Nat} {s : List Nat} {q : List (List Nat)} {st : Int} {name r : List Nat} {ps : List (List Nat)} {j : Nat} (hN : (ps.getD j []).length + 70 ≤ N) (hl : (ps.getD j []).length < 1000000) (hp : (parseO (ps.getD j [])).2 ≠ 0) :
    ∃ t, callN X N (.yld 8) [strV (ps.getD j [])] (hp99 s q st name ps r j true) = some (bl false, (hp99 s q st name ps r j true).set 8 (.loop false (some .ret) (regs99 s q st) [17] fn99A fn99B) ++ t) := by
  obtain ⟨N, rfl⟩ : ∃ M, N = M + 1 := ⟨N - 1, by omega⟩
  have h94 := hX.x.vc (k := 94) (F := fn94) rfl (f94 hX.x (N := N) (s := ps.getD j []) (by omega) (by omega))
  have hwf := parseO_wf (ps.getD j [])
  unfold hp99
  have g1 : ((((parseO (ps.getD j [])).2 : Nat) : Int) != 0) = true := by rw [bne_iff_ne]; omega
  generalize (parseO (ps.getD j [])).1 = o at *
  generalize (parseO (ps.getD j [])).2 = e at *
  generalize osP ps j = l at *
  generalize ps.getD j [] = x at *
  have h6 := oC_len hwf
  simp only [strV, i64] at h94
  have hfo := oC_flat o
  refine ⟨[.cells (oC o) 0 false], ?_⟩
  refine (callN_yld (X := X) (n := N) (id := 8) (p := 17) (regs := regs99 s q st) (regs1 := regs99 s q st) (regs2 := regs99 s q st) (ps1 := [17]) (ps2 := [17]) (asg := fn99A) (body := fn99B) (asg1 := fn99A) (body1 := fn99B) (asg2 := fn99A) (body2 := fn99B) (s1 := ⟨[strV s, .c (.ptr 0 0 0), .c (.ptr 1 0 0), .c (.ptr 2 0 0), .c (.d (slS q)), i64 4, .c (.ptr 3 0 0), i64 st, strV x, .any, .any, .any, bl false, bl false, bl true, bl false, .c fnSj, strV x, .any, .any, .any, .any, .any], [.cells zE 0 false, .cells [.d (.int .i64 0)] 0 false, .cells [.d (.bool false)] 0 false, .cells (enK name (.os 7 j 0 j 17 none)) 0 false, .cells [.d (.str r)] 0 false, .cells [.d (.str [44])] 0 false, .cells [.d (.int .i64 0)] 0 false, .cells (flC l) j false, .loop true none (regs99 s q st) [17] fn99A fn99B]⟩)
    (s2 := ⟨[strV s, .c (.ptr 0 0 0), .c (.ptr 1 0 0), .c (.ptr 2 0 0), .c (.d (slS q)), i64 4, .c (.ptr 3 0 0), i64 st, strV x, .c (.ptr 9 0 0), i64 (e : Int), .any, bl false, bl false, bl true, bl false, .c fnSj, strV x, bl true, .any, .any, .any, .any], [.cells zE 0 false, .cells [.d (.int .i64 0)] 0 false, .cells [.d (.bool false)] 0 false, .cells (enK name (.os 7 j 0 j 17 none)) 0 false, .cells [.d (.str r)] 0 false, .cells [.d (.str [44])] 0 false, .cells [.d (.int .i64 0)] 0 false, .cells (flC l) j false, .loop false none (regs99 s q st) [17] fn99A fn99B, .cells (oC o) 0 false]⟩) (e := .ret) rfl ?_ rfl ?_ rfl).trans rfl
  · simp only [fn99A, evs]
  · simp only [fn99B, zE, ob?, strV, lay, splice, h94, h6, g1, List.take, List.drop, List.set_cons_zero, List.set_cons_succ, List.map_cons, List.map_nil, freeze_nil, reachV, reachC, ite_self, List.flatMap_cons, List.flatMap_nil, evs, Nat.reduceAdd, Nat.reduceLeDiff]
abbrev R148j : List V := [.c (.yld 8), .c (.ptr 5 0 0), .c (.ptr 4 0 0), .c (.ptr 6 0 0), .any, .any, .any, .any, .any, .any, .any, .any]
theorem r148j (hX : XOj m X) {N : Nat} {s t : List Nat} {q : List (List Nat)} {st : Int} {name : List Nat} {j : Nat} (hN : t.length + 70 ≤ N) (ht : t.length < 800000) (hj : j + 1 < (splitN 44 t).length) (hp : (parseO ((splitN 44 t).getD j [])).2 = 0) :
    ∃ s', exec (zenv X N) N false fn148L0 ⟨R148j, hp99 s q st name (splitN 44 t) (restN 44 t j) j true⟩ = some (.nrm, s') ∧ tidy 9 (some [0, 1, 2, 3]) s' = ⟨R148j, hp99 s q st name (splitN 44 t) (restN 44 t (j + 1)) (j + 1) true⟩ := by
  obtain ⟨i, h1, h2, h3, h4⟩ := restN_round 44 t j hj
  obtain ⟨hl1, hl2⟩ := splitN_len 44 t
  have hx : ((splitN 44 t).getD j []).length ≤ t.length := hl2 _ (by
    rw [List.getD_eq_getElem?_getD, List.getElem?_eq_getElem (by omega)]
    exact List.getElem_mem _)
  obtain ⟨u, hy⟩ := yl99 hX (N := N) (s := s) (q := q) (st := st) (name := name) (r := restN 44 t j) (ps := splitN 44 t) (j := j) (by omega) (by omega) (by omega) (by omega) hp
  have hrl := restN_len 44 t j
  have hpc := p147 hX.x (N := N) (s := restN 44 t j) (c := 44)
  rw [h1] at hpc
  have w1 : IntKind.i64.wrap ((i : Int) + 0) = (i : Int) := by rw [Int.add_zero]; exact wrap_nat (by omega)
  have w2 := wrap_succ (k := i) (by omega)
  rw [← h4]
  have htk : (restN 44 t j).take (restN 44 t j).length = restN 44 t j := List.take_length
  have k1 : i ≤ (restN 44 t j).length := by omega
  have k2 : i + 1 ≤ (restN 44 t j).length := by omega
  have k3 : ¬ (i : Int) < 0 := by omega
  have hos : oInt (some i) = (i : Int) := rfl
  have hosu : (flC (osP (splitN 44 t) (j + 1))).all C.isD = true := flC_d _
  unfold hp99 zE at hy ⊢
  rw [← h3] at hy
  generalize restN 44 t j = r at *
  generalize osP (splitN 44 t) j = l at *
  generalize osP (splitN 44 t) (j + 1) = l' at *
  refine ⟨⟨[.c (.yld 8), .c (.ptr 5 0 0), .c (.ptr 4 0 0), .c (.ptr 6 0 0), .any, i64 (i : Int), strV (r.take i), .any, .any, .any, bl false, bl false], [.cells zE 0 false, .cells [.d (.int .i64 0)] 0 false, .cells [.d (.bool false)] 0 false, .cells (enK name (.os 7 (j + 1) 0 (j + 1) 17 none)) 0 false, .cells [.d (.str (r.drop (i + 1)))] 0 false, .cells [.d (.str [44])] 0 false, .cells [.d (.int .i64 0)] 0 false, .cells (flC l') (j + 1) false, .loop true none (regs99 s q st) [17] fn99A fn99B] ++ u⟩, ?_, ?_⟩
  · simp only [strV, bl] at hy
    simp only [fn148L0, R148j, zE, ob?, strV, optNat, splice, hpc, hos, hy, w1, w2, htk, k1, k2, k3, Int.natCast_one, Option.map_none, Bool.not_true, Nat.zero_le, Nat.le_refl, List.take, List.drop, List.set_cons_zero, List.set_cons_succ, List.map_cons, List.map_nil, freeze_nil, reachV, reachC, ite_self, List.flatMap_cons, List.flatMap_nil, evs]
  · refine gc_yes rfl ?_
    simp only [enK, zE, List.cons_append, List.nil_append, List.take_succ_cons, List.take_zero, List.all_cons, List.all_nil, Ob.under, undersC_d 9 _ hosu, Bool.and_true, Bool.and_self]
    rfl
end Mini
end Go.Proofs.YtgjlofpfbhioaaaGreatDoor
namespace Go.Proofs.YtgjlofpfbhioaaaGreatDoor
namespace Mini
open Go
variable {m : Int} {X : Ctx}
theorem c148j (hX : XOj m X) {N : Nat} {s t : List Nat} {q : List (List Nat)} {st : Int} {name : List Nat} (hN : t.length + 80 ≤ N) (ht : t.length < 800000) :
    ((∀ j, j < (splitN 44 t).length → (parseO ((splitN 44 t).getD j [])).2 = 0) ∧ ∃ u, callN X N fnSj [.c (.yld 8)] (hp99 s q st name (splitN 44 t) t 0 true) = some (.tup [], hp99 s q st name (splitN 44 t) (restN 44 t ((splitN 44 t).length - 1)) (splitN 44 t).length true ++ u)) ∨
    ((∃ j, j < (splitN 44 t).length ∧ (parseO ((splitN 44 t).getD j [])).2 ≠ 0) ∧ ∃ r j u, callN X N fnSj [.c (.yld 8)] (hp99 s q st name (splitN 44 t) t 0 true) = some (.tup [], (hp99 s q st name (splitN 44 t) r j true).set 8 (.loop false (some .ret) (regs99 s q st) [17] fn99A fn99B) ++ u)) := by
  obtain ⟨N, rfl⟩ : ∃ M, N = M + 1 := ⟨N - 1, by omega⟩
  have hn := seqLen 44 t
  obtain ⟨hl1, hl2⟩ := splitN_len 44 t
  have hx : ∀ j, j < (splitN 44 t).length → ((splitN 44 t).getD j []).length ≤ t.length := fun j hj => hl2 _ (by
    rw [List.getD_eq_getElem?_getD, List.getElem?_eq_getElem hj]
    exact List.getElem_mem _)
  have hF : fnsX 148 = some fn148' := rfl
  have hcall : ∀ H, callN X (N + 1) fnSj [.c (.yld 8)] H = runFn (zenv X N) N fn148' [.c (.yld 8), .c (.ptr 5 0 0), .c (.ptr 4 0 0), .c (.ptr 6 0 0)] H := fun H => callN_fnc (CtxLe.fns (X := XJ m) hX hF)
  rw [hcall]
  have hr0 : restN 44 t 0 = t := rfl
  have hsep : ∀ r j b, (hp99 s q st name (splitN 44 t) r j b)[5]? = some (.cells [.d (.str [44])] 0 false) := fun _ _ _ => rfl
  have hstr : ∀ r j b, (hp99 s q st name (splitN 44 t) r j b)[4]? = some (.cells [.d (.str r)] 0 false) := fun _ _ _ => rfl
  have hlen : ∀ r j b, (hp99 s q st name (splitN 44 t) r j b).length = 9 := fun _ _ _ => rfl
  have hsc := iter_find (js := some [0, 1, 2, 3]) (hl := 9) (body := exec (zenv X N) N false fn148L0) (fun j => (parseO ((splitN 44 t).getD j [])).2 ≠ 0) ((splitN 44 t).length - 1) (fun j => ⟨R148j, hp99 s q st name (splitN 44 t) (restN 44 t j) j true⟩) (b := 2) (s1 := ⟨[.c (.yld 8), .c (.ptr 5 0 0), .c (.ptr 4 0 0), .c (.ptr 6 0 0), .any, i64 (-1), .any, .any, .any, .any, bl true, .any], hp99 s q st name (splitN 44 t) (restN 44 t ((splitN 44 t).length - 1)) ((splitN 44 t).length - 1) true⟩) (Q := fun k s' => ∃ u, s'.heap = (hp99 s q st name (splitN 44 t) (restN 44 t k) k true).set 8 (.loop false (some .ret) (regs99 s q st) [17] fn99A fn99B) ++ u) (fuel := N) (by omega)
    (fun j hj hp => r148j hX (by omega) ht (by omega) (Decidable.not_not.1 hp))
    (by
      have h1 := (restN_last 44 t).1
      have hpc := p147 hX.x (N := N) (s := restN 44 t ((splitN 44 t).length - 1)) (c := 44)
      rw [h1] at hpc
      have ho : oInt none = -1 := rfl
      rw [ho] at hpc
      have k1 : (-1 : Int) < 0 := by omega
      have hs := hstr (restN 44 t ((splitN 44 t).length - 1)) ((splitN 44 t).length - 1) true
      have hs2 := hsep (restN 44 t ((splitN 44 t).length - 1)) ((splitN 44 t).length - 1) true
      generalize hp99 s q st name (splitN 44 t) (restN 44 t ((splitN 44 t).length - 1)) ((splitN 44 t).length - 1) true = HH at *
      simp only [fn148L0, R148j, hpc, hs, hs2, k1, List.drop_zero, List.take, freeze_nil, reachV, reachC, ite_self, List.flatMap_cons, List.flatMap_nil, evs, Nat.reduceEqDiff])
    (by
      intro j hj hp
      obtain ⟨i, h1, h2, h3, h4⟩ := restN_round 44 t j (by omega)
      have hxj := hx j (by omega)
      obtain ⟨u, hy⟩ := yl99b hX (N := N) (s := s) (q := q) (st := st) (name := name) (r := restN 44 t j) (ps := splitN 44 t) (j := j) (by omega) (by omega) hp
      have hrl := restN_len 44 t j
      have hpc := p147 hX.x (N := N) (s := restN 44 t j) (c := 44)
      rw [h1] at hpc
      have w1 : IntKind.i64.wrap ((i : Int) + 0) = (i : Int) := by rw [Int.add_zero]; exact wrap_nat (by omega)
      have k1 : i ≤ (restN 44 t j).length := by omega
      have k3 : ¬ (i : Int) < 0 := by omega
      have hos : oInt (some i) = (i : Int) := rfl
      have hs := hstr (restN 44 t j) j true
      have hs2 := hsep (restN 44 t j) j true
      have hs3 : (hp99 s q st name (splitN 44 t) (restN 44 t j) j true)[6]? = some (.cells [.d (.int .i64 0)] 0 false) := rfl
      rw [← h3] at hy
      generalize hH2 : (hp99 s q st name (splitN 44 t) (restN 44 t j) j true).set 8 (.loop false (some .ret) (regs99 s q st) [17] fn99A fn99B) ++ u = H2 at hy
      refine ⟨⟨[.c (.yld 8), .c (.ptr 5 0 0), .c (.ptr 4 0 0), .c (.ptr 6 0 0), .any, i64 (i : Int), strV ((restN 44 t j).take i), .any, .any, .any, bl false, bl true], H2⟩, ?_, u, ?_⟩
      · generalize hp99 s q st name (splitN 44 t) (restN 44 t j) j true = HH at *
        generalize restN 44 t j = r at *
        simp only [strV, bl] at hy
        simp only [fn148L0, R148j, strV, optNat, hpc, hos, hy, hs, hs2, hs3, w1, k1, k3, Option.map_none, Bool.not_false, Nat.zero_le, List.take, List.drop, List.map_cons, List.map_nil, freeze_nil, reachV, reachC, ite_self, List.flatMap_cons, List.flatMap_nil, evs]
      · exact hH2.symm)
  simp only [R148j, i64, bl, hr0] at hsc
  have hb0 : ∀ r j, (hp99 s q st name (splitN 44 t) r j true)[5]? = some (.cells [.d (.str [44])] 0 false) := fun _ _ => rfl
  have g1 : ((1 : Int) == 0) = false := rfl
  have hstart := hsep t 0 true
  have hlen0 := hlen t 0 true
  rcases hsc with ⟨hno, hit⟩ | ⟨k, s', hk, hp, hno, ⟨u, hq⟩, hit⟩
  · obtain ⟨h1, h2⟩ := restN_last 44 t
    have hs := hstr (restN 44 t ((splitN 44 t).length - 1)) ((splitN 44 t).length - 1) true
    by_cases hlast : (parseO ((splitN 44 t).getD ((splitN 44 t).length - 1) [])).2 = 0
    · left
      refine ⟨fun j hj => ?_, ?_⟩
      · by_cases hj2 : j = (splitN 44 t).length - 1
        · rw [hj2]; exact hlast
        · exact Decidable.not_not.1 (hno j (by omega))
      · obtain ⟨u, hy⟩ := yl99 hX (N := N) (s := s) (q := q) (st := st) (name := name) (r := restN 44 t ((splitN 44 t).length - 1)) (ps := splitN 44 t) (j := (splitN 44 t).length - 1) (by have := hx _ (show (splitN 44 t).length - 1 < _ by omega); omega) (by omega) (by have := hx _ (show (splitN 44 t).length - 1 < _ by omega); omega) (by omega) hlast
        rw [show (splitN 44 t).length - 1 + 1 = (splitN 44 t).length by omega, ← h2] at hy
        refine ⟨u, (rf_fin _ _ _ _ _ _ _ _ _ (by rfl)).trans ?_⟩
        generalize hp99 s q st name (splitN 44 t) (restN 44 t ((splitN 44 t).length - 1)) (splitN 44 t).length true ++ u = H2 at *
        generalize hp99 s q st name (splitN 44 t) (restN 44 t ((splitN 44 t).length - 1)) ((splitN 44 t).length - 1) true = H1 at *
        generalize hp99 s q st name (splitN 44 t) t 0 true = H0 at *
        simp only [strV] at hy
        simp only [hstart, hlen0, hit, hs, hy, g1, Int.natCast_one, List.drop_zero, List.take, List.map_cons, List.map_nil, evs, Nat.reduceAdd, Nat.reduceBEq, Nat.reduceSub]
    · right
      refine ⟨⟨_, by omega, hlast⟩, ?_⟩
      obtain ⟨u, hy⟩ := yl99b hX (N := N) (s := s) (q := q) (st := st) (name := name) (r := restN 44 t ((splitN 44 t).length - 1)) (ps := splitN 44 t) (j := (splitN 44 t).length - 1) (by have := hx _ (show (splitN 44 t).length - 1 < _ by omega); omega) (by have := hx _ (show (splitN 44 t).length - 1 < _ by omega); omega) hlast
      rw [← h2] at hy
      refine ⟨restN 44 t ((splitN 44 t).length - 1), (splitN 44 t).length - 1, u, (rf_fin _ _ _ _ _ _ _ _ _ (by rfl)).trans ?_⟩
      generalize (hp99 s q st name (splitN 44 t) (restN 44 t ((splitN 44 t).length - 1)) ((splitN 44 t).length - 1) true).set 8 (.loop false (some .ret) (regs99 s q st) [17] fn99A fn99B) ++ u = H2 at *
      generalize hp99 s q st name (splitN 44 t) (restN 44 t ((splitN 44 t).length - 1)) ((splitN 44 t).length - 1) true = H1 at *
      generalize hp99 s q st name (splitN 44 t) t 0 true = H0 at *
      simp only [strV] at hy
      simp only [hstart, hlen0, hit, hs, hy, g1, Int.natCast_one, List.drop_zero, List.take, List.map_cons, List.map_nil, evs, Nat.reduceAdd, Nat.reduceBEq, Nat.reduceSub]
  · right
    refine ⟨⟨k, by omega, hp⟩, restN 44 t k, k, u, (rf_fin _ _ _ _ _ _ _ _ _ (by rfl)).trans ?_⟩
    obtain ⟨r, H⟩ := s'
    simp only at hq
    subst hq
    generalize (hp99 s q st name (splitN 44 t) (restN 44 t k) k true).set 8 (.loop false (some .ret) (regs99 s q st) [17] fn99A fn99B) ++ u = H2 at *
    generalize hp99 s q st name (splitN 44 t) t 0 true = H0 at *
    simp only [hstart, hlen0, hit, g1, Int.natCast_one, List.drop_zero, List.take, evs, Nat.reduceAdd, Nat.reduceBEq, Nat.reduceSub]
end Mini
end Go.Proofs.YtgjlofpfbhioaaaGreatDoor
namespace Go.Proofs.YtgjlofpfbhioaaaGreatDoor
namespace Mini
open Go
variable {m : Int} {X : Ctx}
def accW : List Nat := [97, 99, 99, 101, 112, 116, 101, 100]
def rejW : List Nat := [114, 101, 106, 101, 99, 116, 101, 100]
def rvJ (p : List Nat) : Nat → Nat
  | 0 => 0
  | k + 1 => if p = reasT (k + 1) then k + 1 else rvJ p k
def osJ (t : List Nat) : List Oid := osP (splitN 44 t) (splitN 44 t).length
def readE (s : List Nat) : En × Int × Bool :=
  if (splitN 32 s).length < 4 then (e0, 0, false)
  else if numS ((splitN 32 s).getD ((splitN 32 s).length - 1) []) 5 < 0 then (e0, 0, false)
  else if (splitN 32 s).getD 1 [] = accW ∧ (splitN 32 s).length = 4 then
    if (splitN 32 s).getD 2 [] = [45] then (⟨(splitN 32 s).getD 0 [], true, 0, 0, .nils, []⟩, numS ((splitN 32 s).getD 3 []) 5, true)
    else if itemsOk (splitN 44 ((splitN 32 s).getD 2 [])) then (⟨(splitN 32 s).getD 0 [], true, 0, 0, slO (osJ ((splitN 32 s).getD 2 [])), osJ ((splitN 32 s).getD 2 [])⟩, numS ((splitN 32 s).getD 3 []) 5, true)
    else (e0, 0, false)
  else if (splitN 32 s).getD 1 [] = rejW ∧ (splitN 32 s).length = 5 then
    if rvJ ((splitN 32 s).getD 2 []) 3 = 0 ∨ numS ((splitN 32 s).getD 3 []) 3 < 0 then (e0, 0, false)
    else (⟨(splitN 32 s).getD 0 [], false, rvJ ((splitN 32 s).getD 2 []) 3, numS ((splitN 32 s).getD 3 []) 3, .nils, []⟩, numS ((splitN 32 s).getD 4 []) 5, true)
  else (e0, 0, false)
abbrev R99 (q : List (List Nat)) (st : Int) (j : Nat) : List V := [.any, .c (.ptr 0 0 0), .c (.ptr 1 0 0), .c (.ptr 2 0 0), .c (.d (slS q)), .any, .c (.ptr 3 0 0), i64 st, .any, .any, .any, .c (.d (.int .u8 (j : Int))), .any, .any, .any, .any, .any, .any, .any, .any, .any, .any, .any]
theorem it99 (hX : XOj m X) {N : Nat} (hN : 10 ≤ N) {q : List (List Nat)} {st : Int} {nm : List Nat} {ba : Bool} {h0 h1 h2 : Ob} (hq : 2 < q.length) : iter (some [1, 2, 3, 4, 6, 7, 11]) 4 (exec (zenv X N) N false fn99L0) N ⟨R99 q st 1, [h0, h1, h2, .cells [.d (.str nm), .d (.bool ba), .d (.int .u8 0), .d (.int .i64 0), .d .nils] 0 false]⟩ =
    some (.exit 3, ⟨[.any, .c (.ptr 0 0 0), .c (.ptr 1 0 0), .c (.ptr 2 0 0), .c (.d (slS q)), .any, .c (.ptr 3 0 0), i64 st, .any, .any, .any, .c (.d (.int .u8 4)), .any, .any, .any, .any, .any, .any, .any, .any, bl false, .any, .any], [h0, h1, h2, .cells [.d (.str nm), .d (.bool ba), .d (.int .u8 (rvJ (q.getD 2 []) 3 : Int)), .d (.int .i64 0), .d .nils] 0 false]⟩) := by
  have h2' := slS_at q (i := 2) hq
  refine iter_to (fun i => ⟨R99 q st i, [h0, h1, h2, .cells [.d (.str nm), .d (.bool ba), .d (.int .u8 (rvJ (q.getD 2 []) (i - 1) : Int)), .d (.int .i64 0), .d .nils] 0 false]⟩) (e := .exit 3) (fun h => by cases h) 3 1 N (fun j h1j hj => ?_) ?_ (by omega)
  · have h101 := hX.vc (k := 101) (F := fn101) rfl (f101 hX (N := N) (by omega) (k := j) (by omega))
    have h4 : (j : Int) ≤ 3 := by omega
    have h6 : IntKind.u8.wrap ((j : Int) + 1) = ((j + 1 : Nat) : Int) := by
      rw [← wrap_u8 (n := j + 1) (by omega)]; rfl
    have hrv : rvJ (q.getD 2 []) (j + 1 - 1) = if q.getD 2 [] = reasT j then j else rvJ (q.getD 2 []) (j - 1) := by
      obtain ⟨k, rfl⟩ : ∃ k, j = k + 1 := ⟨j - 1, by omega⟩
      rfl
    rw [hrv]
    simp only [strV] at h101
    generalize rvJ (q.getD 2 []) (j - 1) = rv at *
    generalize q.getD 2 [] = p at *
    generalize reasT j = rt at *
    by_cases hp : p = rt
    · rw [if_pos hp]
      subst hp
      have hb : (p == p) = true := by simp
      refine ⟨⟨[.any, .c (.ptr 0 0 0), .c (.ptr 1 0 0), .c (.ptr 2 0 0), .c (.d (slS q)), .any, .c (.ptr 3 0 0), i64 st, .any, .any, .any, .c (.d (.int .u8 ((j + 1 : Nat) : Int))), .any, .any, .any, .any, .any, .any, .any, .any, bl true, bl true, .any], [h0, h1, h2, .cells [.d (.str nm), .d (.bool ba), .d (.int .u8 (j : Int)), .d (.int .i64 0), .d .nils] 0 false]⟩, ?_, gc_le (Nat.le_refl 4)⟩
      simp only [fn99L0, R99, ob?, binStr, splice, h2', h101, h4, h6, hb, an2, List.take, List.drop, List.map_cons, List.map_nil, List.set_cons_zero, List.set_cons_succ, ↓sp_ixa, evs, Nat.reduceAdd, Nat.reduceLeDiff]
    · rw [if_neg hp]
      have hb : (p == rt) = false := by rw [beqS]; exact decide_eq_false hp
      refine ⟨⟨[.any, .c (.ptr 0 0 0), .c (.ptr 1 0 0), .c (.ptr 2 0 0), .c (.d (slS q)), .any, .c (.ptr 3 0 0), i64 st, .any, .any, .any, .c (.d (.int .u8 ((j + 1 : Nat) : Int))), .any, .any, .any, .any, .any, .any, .any, .any, bl true, bl false, .any], [h0, h1, h2, .cells [.d (.str nm), .d (.bool ba), .d (.int .u8 (rv : Int)), .d (.int .i64 0), .d .nils] 0 false]⟩, ?_, gc_le (Nat.le_refl 4)⟩
      simp only [fn99L0, R99, binStr, h2', h101, h4, h6, hb, an2, List.take, List.map_cons, List.map_nil, ↓sp_ixa, evs, Nat.reduceAdd]
  · have h4 : ¬ ((1 + 3 : Nat) : Int) ≤ 3 := by omega
    have h5 : ((1 + 3 : Nat) : Int) = 4 := rfl
    show exec (zenv X N) N false fn99L0 ⟨R99 q st (1 + 3), [h0, h1, h2, .cells [.d (.str nm), .d (.bool ba), .d (.int .u8 (rvJ (q.getD 2 []) 3 : Int)), .d (.int .i64 0), .d .nils] 0 false]⟩ = _
    rw [h5] at h4
    generalize rvJ (q.getD 2 []) 3 = rv
    simp only [fn99L0, R99, h5, h4, evs, Nat.reduceAdd]
end Mini
end Go.Proofs.YtgjlofpfbhioaaaGreatDoor
namespace Go.Proofs.YtgjlofpfbhioaaaGreatDoor
namespace Mini
open Go
variable {m : Int} {X : Ctx}
set_option maxHeartbeats 1000000 in
theorem f99 (hX : XOj m X) {N : Nat} {s : List Nat} (hN : s.length + 100 ≤ N) (hs : s.length < 800000) : vcallN X N 99 [strV s] = some (.tup [.agg ((readE s).1.ds.map .d), i64 (readE s).2.1, bl (readE s).2.2]) := by
  obtain ⟨N, rfl⟩ : ∃ M, N = M + 1 := ⟨N - 1, by omega⟩
  have hF : fnsX 99 = some fn99'' := rfl
  obtain ⟨hl1, hl2⟩ := splitN_len 32 s
  have hpc : (zenv X N).prim 92 [.c (.d (.str s)), .c (.d (.str [32]))] = some (.c (.d (slS (splitN 32 s)))) := by
    rw [zenv_pr]
    refine hX.prim ?_
    have e : ∀ x : List Nat, primJ 92 [.c (.d (.str x)), .c (.d (.str [32]))] = if x.length < 4294967281 then some (.c (.d (.sl ((splitN 32 x).map .str) (splitN 32 x).length))) else none := fun _ => rfl
    rw [e, if_pos (by omega)]
    rfl
  have h122 : ∀ (x : List Nat) (k : Int), k ≤ 10 → (zenv X N).prim 122 [.c (.d (.str x)), .c (.d (.int .i64 k))] = some (.c (.d (.int .i64 (numS x k)))) := by
    intro x k hk
    rw [zenv_pr]
    refine hX.prim ?_
    show (if k ≤ 10 then some (I64 (numS x k)) else none) = _
    rw [if_pos hk]
  have hz0 : e0.ds.map C.d = zE := rfl
  unfold readE
  generalize hq : splitN 32 s = q at *
  have hlw := slS_len q
  by_cases c1 : q.length < 4
  · rw [if_pos c1, hz0]
    have c1' : (q.length : Int) < 4 := by omega
    refine vcall_of (r := .tup [.agg zE, i64 0, bl false]) (H := [.cells zE 0 false, .cells [.d (.int .i64 0)] 0 false, .cells [.d (.bool false)] 0 false]) ?_ rfl
    rw [hX.fn hF]
    refine (rf_fin _ _ _ _ _ _ _ _ _ (by rfl)).trans ?_
    simp only [zE, ob?, strV, hpc, hlw, c1', lay, splice, List.take, List.drop, List.map_cons, List.map_nil, List.set_cons_zero, List.set_cons_succ, freeze_nil, reachV, reachC, ite_self, List.flatMap_cons, List.flatMap_nil, ↓sp_len, evs, Nat.reduceAdd, Nat.reduceLeDiff, Nat.reduceSub]
  rw [if_neg c1]
  have c1' : ¬ (q.length : Int) < 4 := by omega
  have h0 := slS_at q (i := 0) (by omega)
  have h1 := slS_at q (i := 1) (by omega)
  have h2 := slS_at q (i := 2) (by omega)
  have h3 := slS_at q (i := 3) (by omega)
  have hL := slS_at q (i := q.length - 1) (by omega)
  have hw1 : IntKind.i64.wrap ((q.length : Int) - 1) = ((q.length - 1 : Nat) : Int) := by
    rw [← wrap_nat (k := q.length - 1) (by omega)]
    congr 1
    omega
  have hmem : ∀ j, j < q.length → (q.getD j []).length ≤ s.length := fun j hj => hl2 _ (by
    rw [List.getD_eq_getElem?_getD, List.getElem?_eq_getElem hj]
    exact List.getElem_mem _)
  have hm2 := hmem 2 (by omega)
  have hsum := h122 (q.getD (q.length - 1) []) 5 (by decide)
  have hat := h122 (q.getD 3 []) 3 (by decide)
  have an3 : asNat (.c (.d (.int .i64 3))) = some 3 := rfl
  by_cases c2 : numS (q.getD (q.length - 1) []) 5 < 0
  · rw [if_pos c2, hz0]
    refine vcall_of (r := .tup [.agg zE, i64 0, bl false]) (H := [.cells zE 0 false, .cells [.d (.int .i64 0)] 0 false, .cells [.d (.bool false)] 0 false, .cells [.d (.str (q.getD 0 [])), .d (.bool (q.getD 1 [] == accW)), .d (.int .u8 0), .d (.int .i64 0), .d .nils] 0 false]) ?_ rfl
    rw [hX.fn hF]
    refine (rf_fin _ _ _ _ _ _ _ _ _ (by rfl)).trans ?_
    generalize numS (q.getD (q.length - 1) []) 5 = st at *
    simp only [zE, accW, ob?, strV, binStr, hpc, hlw, c1', c2, h0, h1, hL, hw1, hsum, lay, splice, List.take, List.drop, List.map_cons, List.map_nil, List.set_cons_zero, List.set_cons_succ, freeze_nil, reachV, reachC, ite_self, List.flatMap_cons, List.flatMap_nil, ↓sp_len, ↓sp_ixa, evs, Nat.reduceAdd, Nat.reduceLeDiff, Nat.reduceSub]
  rw [if_neg c2]
  by_cases c3 : q.getD 1 [] = accW ∧ q.length = 4
  · rw [if_pos c3]
    obtain ⟨ha, hn4⟩ := c3
    have hsl : q.length - 1 = 3 := by omega
    rw [hsl] at hL hw1 hsum c2
    rw [hn4] at hlw hw1 c1'
    rw [ha] at h1
    have g4 : ((4 : Int) == 4) = true := rfl
    have gw : IntKind.i64.wrap (4 - 1) = 3 := rfl
    have gs : (accW == accW) = true := by simp
    have g14 : ¬ (4 : Int) < 4 := by omega
    have hy93 := f93 hX.x (N := N) (by omega) (s := q.getD 2 []) (c := [44]) (H := [.cells zE 0 false, .cells [.d (.int .i64 0)] 0 false, .cells [.d (.bool false)] 0 false, .cells (enK (q.getD 0 []) (.d .nils)) 0 false])
    have hcc := c148j hX (N := N) (s := s) (t := q.getD 2 []) (q := q) (st := numS (q.getD 3 []) 5) (name := q.getD 0 []) (by omega) (by omega)
    unfold osJ
    generalize hst : numS (q.getD 3 []) 5 = st at *
    simp only [strV] at hy93
    by_cases c4 : q.getD 2 [] = [45]
    · rw [if_pos c4]
      rw [c4] at h2
      have gd : (([45] : List Nat) == [45]) = true := by simp
      generalize q.getD 0 [] = q0 at *
      refine vcall_of (r := .tup [.agg [.d (.str q0), .d (.bool true), .d (.int .u8 0), .d (.int .i64 0), .d .nils], i64 st, bl true]) (H := [.cells [.d (.str q0), .d (.bool true), .d (.int .u8 0), .d (.int .i64 0), .d .nils] 0 false, .cells [.d (.int .i64 st)] 0 false, .cells [.d (.bool true)] 0 false, .cells [.d (.str q0), .d (.bool true), .d (.int .u8 0), .d (.int .i64 0), .d .nils] 0 false]) ?_ rfl
      rw [hX.fn hF]
      refine (rf_fin _ _ _ _ _ _ _ _ _ (by rfl)).trans ?_
      simp only [accW] at h1 gs
      simp only [ob?, strV, binStr, hpc, hlw, g14, c2, h0, h1, h2, hL, gw, gs, gd, g4, an1, an2, an3, hsum, Int.cast_ofNat_Int, lay, splice, List.take, List.drop, List.map_cons, List.map_nil, List.set_cons_zero, List.set_cons_succ, freeze_nil, reachV, reachC, ite_self, List.flatMap_cons, List.flatMap_nil, ↓sp_len, ↓sp_ixa, evs, Nat.reduceAdd, Nat.reduceLeDiff, Nat.reduceSub]
    rw [if_neg c4]
    have gd : (q.getD 2 [] == [45]) = false := by rw [beqS]; exact decide_eq_false c4
    have hfr : exec (zenv X N) N false (.fresh 6 (some 4) 17) ⟨regs99 s q st, [.cells zE 0 false, .cells [.d (.int .i64 0)] 0 false, .cells [.d (.bool false)] 0 false, .cells (enK (q.getD 0 []) (.d .nils)) 0 false, .cells [.d (.str (q.getD 2 []))] 0 false, .cells [.d (.str [44])] 0 false, .cells [.d (.int .i64 0)] 0 false]⟩ = some (.nrm, ⟨regs99 s q st, [.cells zE 0 false, .cells [.d (.int .i64 0)] 0 false, .cells [.d (.bool false)] 0 false, .cells (enK (q.getD 0 []) (.os 7 0 0 0 17 none)) 0 false, .cells [.d (.str (q.getD 2 []))] 0 false, .cells [.d (.str [44])] 0 false, .cells [.d (.int .i64 0)] 0 false, .cells [] 0 false]⟩) := rfl
    rcases hcc with ⟨hok, u, hc⟩ | ⟨⟨j, hj, hbad⟩, r, k, u, hc⟩
    · have hio : itemsOk (splitN 44 (q.getD 2 [])) := hok
      rw [if_pos hio]
      have hrf := ex_rf (E := zenv X N) (N := N) (f := .r 16) (ps := [17]) (asg := fn99A) (body := fn99B) (regs := regs99 s q st) (H := [.cells zE 0 false, .cells [.d (.int .i64 0)] 0 false, .cells [.d (.bool false)] 0 false, .cells (enK (q.getD 0 []) (.os 7 0 0 0 17 none)) 0 false, .cells [.d (.str (q.getD 2 []))] 0 false, .cells [.d (.str [44])] 0 false, .cells [.d (.int .i64 0)] 0 false, .cells [] 0 false]) (x := fnSj) rfl rfl hc rfl
      have hn := seqLen 44 (q.getD 2 [])
      have hwf := osP_wf (splitN 44 (q.getD 2 [])) (splitN 44 (q.getD 2 [])).length
      have hol := osP_len (splitN 44 (q.getD 2 [])) (Nat.le_refl _)
      have hfl := flC_len hwf
      rw [hol] at hfl
      unfold hp99 at hrf
      generalize restN 44 (q.getD 2 []) ((splitN 44 (q.getD 2 [])).length - 1) = rr at *
      generalize hos : osP (splitN 44 (q.getD 2 [])) (splitN 44 (q.getD 2 [])).length = os at *
      generalize (splitN 44 (q.getD 2 [])).length = n at *
      have hdp : ∀ x0 x1 x2 x3 x4 x5 x6 : Ob, ∀ t, deepC (x0 :: x1 :: x2 :: x3 :: x4 :: x5 :: x6 :: .cells (flC os) n false :: t) deepMax (.os 7 n 0 n 17 none) = some (slO os) := by
        intro x0 x1 x2 x3 x4 x5 x6 t
        have p2 : ((flC os).drop 0).take (n * 17) = (os.flatMap oD).map .d := by
          rw [List.drop_zero, List.take_of_length_le (by omega)]; rfl
        have p1 : 0 + n * 17 ≤ (flC os).length := by omega
        simp only [deepMax, deepC, ob?, if_true, if_pos p1, p2, mapO_d, Option.map_some]
        rw [slO, hol]
      generalize q.getD 0 [] = q0 at *
      generalize q.getD 2 [] = tt at *
      refine vcall_of (r := .tup [.agg (enK q0 (.os 7 n 0 n 17 none)), i64 st, bl true]) (H := [.cells (enK q0 (.os 7 n 0 n 17 none)) 0 false, .cells [.d (.int .i64 st)] 0 false, .cells [.d (.bool true)] 0 false, .cells (enK q0 (.os 7 n 0 n 17 none)) 0 false, .cells [.d (.str rr)] 0 false, .cells [.d (.str [44])] 0 false, .cells [.d (.int .i64 0)] 0 false, .cells (flC os) n false, .dead] ++ u) ?_ ?_
      · rw [hX.fn hF]
        refine (rf_fin _ _ _ _ _ _ _ _ _ (by rfl)).trans ?_
        simp only [strV, i64, bl, fnSj, regs99, enK, zE, List.length_cons, List.length_nil, Nat.reduceAdd, List.cons_append, List.nil_append, List.set_cons_zero, List.set_cons_succ] at hrf hfr hy93
        simp only [accW] at h1 gs
        simp only [enK, ob?, strV, binStr, hpc, hlw, g14, c2, h0, h1, h2, hL, gw, gs, gd, g4, an1, an2, an3, hsum, hy93, hfr, hrf, Int.cast_ofNat_Int, lay, splice, List.take, List.drop, List.map_cons, List.map_nil, List.set_cons_zero, List.set_cons_succ, freeze_nil, reachV, reachC, ite_self, List.flatMap_cons, List.flatMap_nil, ↓sp_len, ↓sp_ixa, evs, Nat.reduceAdd, Nat.reduceLeDiff, Nat.reduceSub]
      · simp only [enK, deepV, mapO, deepV1, List.cons_append, List.nil_append, hdp, bl, i64]
        rfl
    · have hio : ¬ itemsOk (splitN 44 (q.getD 2 [])) := fun h => hbad (h j hj)
      rw [if_neg hio, hz0]
      have hrf := ex_rf_out (E := zenv X N) (N := N) (f := .r 16) (ps := [17]) (asg := fn99A) (body := fn99B) (regs := regs99 s q st) (H := [.cells zE 0 false, .cells [.d (.int .i64 0)] 0 false, .cells [.d (.bool false)] 0 false, .cells (enK (q.getD 0 []) (.os 7 0 0 0 17 none)) 0 false, .cells [.d (.str (q.getD 2 []))] 0 false, .cells [.d (.str [44])] 0 false, .cells [.d (.int .i64 0)] 0 false, .cells [] 0 false]) (x := fnSj) (e := .ret) rfl rfl hc rfl
      have h0z : (((hp99 s q st (q.getD 0 []) (splitN 44 (q.getD 2 [])) r k true).set 8 (.loop false (some .ret) (regs99 s q st) [17] fn99A fn99B) ++ u).set 8 .dead)[0]? = some (.cells zE 0 false) := rfl
      have h1z : (((hp99 s q st (q.getD 0 []) (splitN 44 (q.getD 2 [])) r k true).set 8 (.loop false (some .ret) (regs99 s q st) [17] fn99A fn99B) ++ u).set 8 .dead)[1]? = some (.cells [.d (.int .i64 0)] 0 false) := rfl
      have h2z : (((hp99 s q st (q.getD 0 []) (splitN 44 (q.getD 2 [])) r k true).set 8 (.loop false (some .ret) (regs99 s q st) [17] fn99A fn99B) ++ u).set 8 .dead)[2]? = some (.cells [.d (.bool false)] 0 false) := rfl
      simp only [List.length_cons, List.length_nil, Nat.reduceAdd] at hrf
      generalize ((hp99 s q st (q.getD 0 []) (splitN 44 (q.getD 2 [])) r k true).set 8 (.loop false (some .ret) (regs99 s q st) [17] fn99A fn99B) ++ u).set 8 .dead = HH at *
      generalize q.getD 0 [] = q0 at *
      generalize q.getD 2 [] = tt at *
      refine vcall_of (r := .tup [.agg zE, i64 0, bl false]) (H := HH) ?_ rfl
      rw [hX.fn hF]
      refine (rf_fin _ _ _ _ _ _ _ _ _ (by rfl)).trans ?_
      simp only [strV, i64, bl, fnSj, regs99, enK, zE, List.length_cons, List.length_nil, Nat.reduceAdd, List.cons_append, List.nil_append] at hrf hfr hy93 h0z
      simp only [accW] at h1 gs
      simp only [zE, ob?, strV, binStr, hpc, hlw, g14, c2, h0, h1, h2, hL, gw, gs, gd, g4, an1, an2, an3, hsum, hy93, hfr, hrf, h0z, h1z, h2z, Int.cast_ofNat_Int, lay, splice, List.take, List.drop, List.map_cons, List.map_nil, freeze_nil, reachV, reachC, ite_self, List.flatMap_cons, List.flatMap_nil, ↓sp_len, ↓sp_ixa, evs, Nat.reduceAdd, Nat.reduceLeDiff, Nat.reduceSub]
  rw [if_neg c3]
  have hne : ¬ accW = rejW := by decide
  have gar : (accW == rejW) = false := by rw [beqS]; exact decide_eq_false hne
  have gaa : (accW == accW) = true := by simp
  have grr : (rejW == rejW) = true := by simp
  by_cases ca : q.getD 1 [] = accW
  · have hn4 : ((q.length : Int) == 4) = false := by
      rw [beq_eq_false_iff_ne]
      intro h
      exact c3 ⟨ca, by omega⟩
    rw [if_neg (by rintro ⟨h, _⟩; exact hne (ca.symm.trans h)), hz0]
    rw [ca] at h1
    simp only [accW, rejW] at h1 gar gaa
    refine vcall_of (r := .tup [.agg zE, i64 0, bl false]) (H := [.cells zE 0 false, .cells [.d (.int .i64 0)] 0 false, .cells [.d (.bool false)] 0 false, .cells [.d (.str (q.getD 0 [])), .d (.bool true), .d (.int .u8 0), .d (.int .i64 0), .d .nils] 0 false]) ?_ rfl
    rw [hX.fn hF]
    refine (rf_fin _ _ _ _ _ _ _ _ _ (by rfl)).trans ?_
    generalize numS (q.getD (q.length - 1) []) 5 = st at *
    simp only [zE, ob?, strV, binStr, hpc, hlw, c1', c2, h0, h1, hL, hw1, hsum, an1, gar, gaa, hn4, lay, splice, List.take, List.drop, List.map_cons, List.map_nil, List.set_cons_zero, List.set_cons_succ, freeze_nil, reachV, reachC, ite_self, List.flatMap_cons, List.flatMap_nil, ↓sp_len, ↓sp_ixa, evs, Nat.reduceAdd, Nat.reduceLeDiff, Nat.reduceSub]
  have gna : (q.getD 1 [] == accW) = false := by rw [beqS]; exact decide_eq_false ca
  by_cases cr : q.getD 1 [] = rejW
  case neg =>
    have gnr : (q.getD 1 [] == rejW) = false := by rw [beqS]; exact decide_eq_false cr
    rw [if_neg (by rintro ⟨h, _⟩; exact cr h), hz0]
    simp only [accW, rejW] at gna gnr
    refine vcall_of (r := .tup [.agg zE, i64 0, bl false]) (H := [.cells zE 0 false, .cells [.d (.int .i64 0)] 0 false, .cells [.d (.bool false)] 0 false, .cells [.d (.str (q.getD 0 [])), .d (.bool false), .d (.int .u8 0), .d (.int .i64 0), .d .nils] 0 false]) ?_ rfl
    rw [hX.fn hF]
    refine (rf_fin _ _ _ _ _ _ _ _ _ (by rfl)).trans ?_
    generalize numS (q.getD (q.length - 1) []) 5 = st at *
    simp only [zE, ob?, strV, binStr, hpc, hlw, c1', c2, h0, h1, hL, hw1, hsum, an1, gna, gnr, lay, splice, List.take, List.drop, List.map_cons, List.map_nil, List.set_cons_zero, List.set_cons_succ, freeze_nil, reachV, reachC, ite_self, List.flatMap_cons, List.flatMap_nil, ↓sp_len, ↓sp_ixa, evs, Nat.reduceAdd, Nat.reduceLeDiff, Nat.reduceSub]
  rw [cr] at h1 gna
  by_cases c5 : q.length = 5
  case neg =>
    have hn5 : ((q.length : Int) == 5) = false := by rw [beq_eq_false_iff_ne]; omega
    rw [if_neg (by rintro ⟨_, h⟩; exact c5 h), hz0]
    simp only [accW, rejW] at gna grr h1
    refine vcall_of (r := .tup [.agg zE, i64 0, bl false]) (H := [.cells zE 0 false, .cells [.d (.int .i64 0)] 0 false, .cells [.d (.bool false)] 0 false, .cells [.d (.str (q.getD 0 [])), .d (.bool false), .d (.int .u8 0), .d (.int .i64 0), .d .nils] 0 false]) ?_ rfl
    rw [hX.fn hF]
    refine (rf_fin _ _ _ _ _ _ _ _ _ (by rfl)).trans ?_
    generalize numS (q.getD (q.length - 1) []) 5 = st at *
    simp only [zE, ob?, strV, binStr, hpc, hlw, c1', c2, h0, h1, hL, hw1, hsum, an1, gna, grr, hn5, lay, splice, List.take, List.drop, List.map_cons, List.map_nil, List.set_cons_zero, List.set_cons_succ, freeze_nil, reachV, reachC, ite_self, List.flatMap_cons, List.flatMap_nil, ↓sp_len, ↓sp_ixa, evs, Nat.reduceAdd, Nat.reduceLeDiff, Nat.reduceSub]
  rw [if_pos ⟨cr, c5⟩]
  have hn5 : ((q.length : Int) == 5) = true := by rw [beq_iff_eq]; omega
  have hit := it99 hX (N := N) (by omega) (q := q) (st := numS (q.getD (q.length - 1) []) 5) (nm := q.getD 0 []) (ba := false) (h0 := .cells zE 0 false) (h1 := .cells [.d (.int .i64 0)] 0 false) (h2 := .cells [.d (.bool false)] 0 false) (by omega)
  have hq4 : q.getD 4 [] = q.getD (q.length - 1) [] := by rw [c5]
  rw [hq4]
  simp only [R99, zE, i64, bl, Int.natCast_one] at hit
  simp only [accW, rejW] at gna grr h1
  by_cases d1 : rvJ (q.getD 2 []) 3 = 0
  · rw [if_pos (.inl d1), hz0]
    rw [d1] at hit
    simp only [Int.natCast_zero] at hit
    have g0 : ((0 : Int) == 0) = true := rfl
    generalize hatv : numS (q.getD 3 []) 3 = at3 at *
    refine vcall_of (r := .tup [.agg zE, i64 0, bl false]) (H := [.cells zE 0 false, .cells [.d (.int .i64 0)] 0 false, .cells [.d (.bool false)] 0 false, .cells [.d (.str (q.getD 0 [])), .d (.bool false), .d (.int .u8 0), .d (.int .i64 at3), .d .nils] 0 false]) ?_ rfl
    rw [hX.fn hF]
    refine (rf_fin _ _ _ _ _ _ _ _ _ (by rfl)).trans ?_
    generalize numS (q.getD (q.length - 1) []) 5 = st at *
    simp only [zE, ob?, strV, binStr, hpc, hlw, c1', c2, h0, h1, h3, hL, hw1, hsum, hat, an1, an3, gna, grr, hn5, hit, g0, lay, splice, List.take, List.drop, List.map_cons, List.map_nil, List.set_cons_zero, List.set_cons_succ, freeze_nil, reachV, reachC, ite_self, List.flatMap_cons, List.flatMap_nil, ↓sp_len, ↓sp_ixa, evs, Nat.reduceAdd, Nat.reduceLeDiff, Nat.reduceBEq, Nat.reduceSub]
  · have g0 : (((rvJ (q.getD 2 []) 3 : Nat) : Int) == 0) = false := by rw [beq_eq_false_iff_ne]; omega
    by_cases d2 : numS (q.getD 3 []) 3 < 0
    · rw [if_pos (.inr d2), hz0]
      generalize rvJ (q.getD 2 []) 3 = rv at *
      generalize hatv : numS (q.getD 3 []) 3 = at3 at *
      refine vcall_of (r := .tup [.agg zE, i64 0, bl false]) (H := [.cells zE 0 false, .cells [.d (.int .i64 0)] 0 false, .cells [.d (.bool false)] 0 false, .cells [.d (.str (q.getD 0 [])), .d (.bool false), .d (.int .u8 (rv : Int)), .d (.int .i64 at3), .d .nils] 0 false]) ?_ rfl
      rw [hX.fn hF]
      refine (rf_fin _ _ _ _ _ _ _ _ _ (by rfl)).trans ?_
      generalize numS (q.getD (q.length - 1) []) 5 = st at *
      simp only [zE, ob?, strV, binStr, hpc, hlw, c1', c2, h0, h1, h3, hL, hw1, hsum, hat, an1, an3, gna, grr, hn5, hit, g0, d2, lay, splice, List.take, List.drop, List.map_cons, List.map_nil, List.set_cons_zero, List.set_cons_succ, freeze_nil, reachV, reachC, ite_self, List.flatMap_cons, List.flatMap_nil, ↓sp_len, ↓sp_ixa, evs, Nat.reduceAdd, Nat.reduceLeDiff, Nat.reduceBEq, Nat.reduceSub]
    · rw [if_neg (by rintro (h | h); exact d1 h; exact d2 h)]
      generalize rvJ (q.getD 2 []) 3 = rv at *
      generalize hatv : numS (q.getD 3 []) 3 = at3 at *
      generalize numS (q.getD (q.length - 1) []) 5 = st at *
      generalize q.getD 0 [] = q0 at *
      refine vcall_of (r := .tup [.agg [.d (.str q0), .d (.bool false), .d (.int .u8 (rv : Int)), .d (.int .i64 at3), .d .nils], i64 st, bl true]) (H := [.cells [.d (.str q0), .d (.bool false), .d (.int .u8 (rv : Int)), .d (.int .i64 at3), .d .nils] 0 false, .cells [.d (.int .i64 st)] 0 false, .cells [.d (.bool true)] 0 false, .cells [.d (.str q0), .d (.bool false), .d (.int .u8 (rv : Int)), .d (.int .i64 at3), .d .nils] 0 false]) ?_ rfl
      rw [hX.fn hF]
      refine (rf_fin _ _ _ _ _ _ _ _ _ (by rfl)).trans ?_
      simp only [ob?, strV, binStr, hpc, hlw, c1', c2, h0, h1, h3, hL, hw1, hsum, hat, an1, an3, gna, grr, hn5, hit, g0, d2, lay, splice, List.take, List.drop, List.map_cons, List.map_nil, List.set_cons_zero, List.set_cons_succ, freeze_nil, reachV, reachC, ite_self, List.flatMap_cons, List.flatMap_nil, ↓sp_len, ↓sp_ixa, evs, Nat.reduceAdd, Nat.reduceLeDiff, Nat.reduceBEq, Nat.reduceSub]
end Mini
end Go.Proofs.YtgjlofpfbhioaaaGreatDoor
namespace Go.Proofs.YtgjlofpfbhioaaaGreatDoor
namespace Mini
open Go
variable {m : Int} {X : Ctx}
def exD (l : List Oid) : D := if l.length = 0 then .nils else slO l
theorem exD_is (l : List Oid) : isSet (exD l) l := by
  unfold exD
  split
  · rename_i h
    exact .inl ⟨rfl, List.length_eq_zero_iff.1 h⟩
  · exact .inr rfl
theorem f79 (hX : XOj m X) {N : Nat} (hN : 1 ≤ N) {w : D} {l : List Oid} (hw : isSet w l) (hl : wfS l) (hlen : l.length < 1000000) : vcallN X N 79 [.c (.d w)] = some (.c (.d (exD l))) := by
  obtain ⟨N, rfl⟩ : ∃ M, N = M + 1 := ⟨N - 1, by omega⟩
  have hF : fnsX 79 = some fn79' := rfl
  have hln := hw.len
  unfold exD
  by_cases c1 : l.length = 0
  · rw [if_pos c1]
    have g0 : ((l.length : Int) == 0) = true := by rw [beq_iff_eq]; omega
    refine vcall_of (r := .c (.d .nils)) (H := []) ?_ rfl
    rw [hX.fn hF]
    refine (rf_fin _ _ _ _ _ _ _ _ _ (by rfl)).trans ?_
    simp only [hln, g0, ↓sp_len, evs, Nat.reduceSub]
  · rw [if_neg c1]
    have g0 : ((l.length : Int) == 0) = false := by rw [beq_eq_false_iff_ne]; omega
    have hel := hw.elems hl
    have hfl : (flC l).length = l.length * 17 := flC_len hl
    have hfc : (l.flatMap oD).map C.d = flC l := rfl
    rw [hfc] at hel
    have k1 : l.length * 68 ≤ 1099511627776 := by omega
    have k2 : l.length ≤ 1099511627776 := by omega
    have hrl : (rep [C.d (.int .u8 0), C.d (.int .u32 0), C.d (.int .u32 0), C.d (.int .u32 0), C.d (.int .u32 0), C.d (.int .u32 0), C.d (.int .u32 0), C.d (.int .u32 0), C.d (.int .u32 0), C.d (.int .u32 0), C.d (.int .u32 0), C.d (.int .u32 0), C.d (.int .u32 0), C.d (.int .u32 0), C.d (.int .u32 0), C.d (.int .u32 0), C.d (.int .u32 0)] l.length).length = l.length * 17 := by rw [rep_len]; rfl
    have htk : (flC l).take (l.length * 17) = flC l := List.take_of_length_le (by omega)
    have hmin : min l.length l.length = l.length := Nat.min_self _
    refine vcall_of (r := .c (.os 0 0 0 l.length 17 (some l.length))) (H := [.cells (flC l) 0 false]) ?_ ?_
    · rw [hX.fn hF]
      refine (rf_fin _ _ _ _ _ _ _ _ _ (by rfl)).trans ?_
      generalize hrp : rep [C.d (.int .u8 0), C.d (.int .u32 0), C.d (.int .u32 0), C.d (.int .u32 0), C.d (.int .u32 0), C.d (.int .u32 0), C.d (.int .u32 0), C.d (.int .u32 0), C.d (.int .u32 0), C.d (.int .u32 0), C.d (.int .u32 0), C.d (.int .u32 0), C.d (.int .u32 0), C.d (.int .u32 0), C.d (.int .u32 0), C.d (.int .u32 0), C.d (.int .u32 0)] l.length = rp at *
      have hsp : splice rp 0 (flC l) = flC l := by
        unfold splice
        rw [List.take_zero, List.nil_append, Nat.zero_add, hfl, ← hrl, List.drop_length, List.append_nil]
      generalize flC l = fc at *
      simp only [hln, g0, k1, k2, hrp, hrl, hel, htk, hmin, hsp, Nat.le_refl, ob?, List.map_cons, List.map_nil, List.set_cons_zero, ↓sp_len, evs, Nat.reduceSub]
    · have p2 : ((flC l).drop 0).take (l.length * 17) = (l.flatMap oD).map .d := by
        rw [List.drop_zero, htk]; rfl
      have p1 : 0 + l.length * 17 ≤ (flC l).length := by omega
      simp only [deepV, deepV1, deepMax, deepC, ob?, if_true, if_pos p1, p2, mapO_d, Option.map_some]
      rfl
end Mini
end Go.Proofs.YtgjlofpfbhioaaaGreatDoor
namespace Go.Proofs.YtgjlofpfbhioaaaGreatDoor
namespace Mini
open Go
variable {m : Int} {X : Ctx}
def fn71A : I := .seq (.reg false [⟨none, .mov (.r 13)⟩] [(5, 0)] []) ( .reg false [⟨none, .mov (.r 14)⟩] [(6, 0)] [])
def fn71B : I := .block 1 ( .seq (.seq (.reg false [⟨none, .ld false 1 (.r 1)⟩, ⟨none, .len (.l 0)⟩, ⟨none, .bin .eql (.l 0) (.v (.c (.d (.int .i64 4096))))⟩] [(15, 0)] []) ( .cond (.r 15) ( .seq (.reg true [⟨none, .ld false 1 (.r 1)⟩, ⟨none, .ld false 1 (.r 2)⟩, ⟨none, .ld false 1 (.r 3)⟩, ⟨none, .st 1 (.r 1) (.l 2)⟩, ⟨none, .st 1 (.r 2) (.l 2)⟩, ⟨none, .st 1 (.r 3) (.l 2)⟩, ⟨none, .st 1 (.r 4) (.v (.c (.d (.int .i64 3))))⟩] [] [((.r 2), (.r 1)), ((.r 3), (.r 1)), ((.r 3), (.r 2))]) ( .ret)) ( .skip))) ( .seq (.reg false [⟨none, .mov (.r 5)⟩, ⟨none, .vc 99 [(.l 0)]⟩, ⟨none, .mov (.l 0)⟩, ⟨none, .ext (.l 0) 0⟩, ⟨none, .ext (.l 1) 1⟩, ⟨none, .ext (.l 2) 2⟩, ⟨none, .pre⟩, ⟨none, .ini 5 (.l 3)⟩, ⟨none, .mov (.l 3)⟩, ⟨none, .mov (.l 3)⟩] [(7, 2), (8, 1), (9, 0)] []) ( .seq (.seq (.reg false [⟨none, .mov (.r 9)⟩, ⟨none, .un .not (.l 0)⟩] [(16, 0)] []) ( .cond (.r 16) ( .seq (.reg true [⟨none, .ld false 1 (.r 1)⟩, ⟨none, .ld false 1 (.r 2)⟩, ⟨none, .ld false 1 (.r 3)⟩, ⟨none, .st 1 (.r 1) (.l 2)⟩, ⟨none, .st 1 (.r 2) (.l 2)⟩, ⟨none, .st 1 (.r 3) (.l 2)⟩, ⟨none, .st 1 (.r 4) (.v (.c (.d (.int .i64 6))))⟩] [] [((.r 2), (.r 1)), ((.r 3), (.r 1)), ((.r 3), (.r 2))]) ( .ret)) ( .skip))) ( .seq (.seq (.reg false [⟨none, .ld true 5 (.r 7)⟩, ⟨none, .vc 48 [(.l 0)]⟩, ⟨none, .mov (.l 0)⟩] [(10, 0)] []) ( .seq (.reg false [⟨none, .mov (.r 10)⟩, ⟨none, .bin .neq (.l 0) (.v (.c (.d (.int .i64 0))))⟩] [(17, 0)] []) ( .cond (.r 17) ( .seq (.reg true [⟨none, .ld false 1 (.r 1)⟩, ⟨none, .ld false 1 (.r 2)⟩, ⟨none, .ld false 1 (.r 3)⟩, ⟨none, .mov (.r 10)⟩, ⟨none, .st 1 (.r 1) (.l 3)⟩, ⟨none, .st 1 (.r 2) (.l 3)⟩, ⟨none, .st 1 (.r 3) (.l 3)⟩, ⟨none, .st 1 (.r 4) (.l 3)⟩] [] [((.r 2), (.r 1)), ((.r 3), (.r 1)), ((.r 3), (.r 2))]) ( .ret)) ( .skip)))) ( .seq (.reg true [⟨none, .ld false 1 (.r 3)⟩, ⟨none, .mov (.r 5)⟩, ⟨none, .mov (.r 5)⟩, ⟨none, .pc 100 [(.l 0), (.v (.c (.d (.int .u8 32))))]⟩, ⟨none, .sls (.l 2) none (some (.l 0))⟩, ⟨none, .vc 74 [(.l 4), (.l 0)]⟩, ⟨none, .mov (.l 0)⟩] [(11, 0)] []) ( .seq (.seq (.reg false [⟨none, .mov (.r 11)⟩, ⟨none, .mov (.r 8)⟩, ⟨none, .bin .neq (.l 1) (.l 0)⟩] [(18, 0)] []) ( .cond (.r 18) ( .seq (.reg true [⟨none, .ld false 1 (.r 1)⟩, ⟨none, .ld false 1 (.r 2)⟩, ⟨none, .ld false 1 (.r 3)⟩, ⟨none, .st 1 (.r 1) (.l 2)⟩, ⟨none, .st 1 (.r 2) (.l 2)⟩, ⟨none, .st 1 (.r 3) (.l 2)⟩, ⟨none, .st 1 (.r 4) (.v (.c (.d (.int .i64 24))))⟩] [] [((.r 2), (.r 1)), ((.r 3), (.r 1)), ((.r 3), (.r 2))]) ( .ret)) ( .skip))) ( .seq (.reg false [⟨none, .fa 4 (.r 7)⟩, ⟨none, .ld false 1 (.l 0)⟩, ⟨none, .vc 79 [(.l 0)]⟩, ⟨none, .fa 4 (.r 7)⟩, ⟨none, .st 1 (.l 0) (.l 1)⟩] [] []) ( .seq (.reg false [⟨none, .ld false 1 (.r 1)⟩, ⟨none, .ld true 5 (.r 7)⟩, ⟨none, .bsl 1 5 [.str [], .bool false, .int .u8 0, .int .i64 0, .nils] [(0, 5, (.l 0))]⟩, ⟨none, .app 5 (.l 2) (.l 0)⟩, ⟨none, .st 1 (.r 1) (.l 0)⟩] [] []) ( .reg false [⟨none, .mov (.r 6)⟩, ⟨none, .mov (.r 11)⟩, ⟨none, .st 1 (.r 2) (.l 1)⟩, ⟨none, .st 1 (.r 3) (.l 1)⟩] [] [])))))))))
def fn71'' : Fn := ⟨1, 19, [0, 2, 3, 4, 5, 6, 7, 8, 9, 10, 11, 12, 14, 15, 16, 19, 30, 37, 50], [.cell 1 1 false, .cell 2 1 false, .cell 3 1 false, .cell 4 1 false], .seq (.reg false [⟨none, .new [.nils]⟩, ⟨none, .new [.int .i64 0]⟩, ⟨none, .new [.int .i64 0]⟩, ⟨none, .new [.int .i64 0]⟩] [(1, 3), (2, 2), (3, 1), (4, 0)] []) ( .seq (.seq (.reg false [⟨none, .mov (.r 0)⟩, ⟨none, .hc (.v (.c (.d (.fn 98 [] [])))) [(.l 0)]⟩] [(12, 0)] []) ( .block 0 ( .seq (.fresh 1 (some 0) 5) ( .rf (.r 12) [13, 14] fn71A fn71B)))) ( .seq (.reg true [⟨none, .ld false 1 (.r 1)⟩, ⟨none, .ld false 1 (.r 2)⟩, ⟨none, .ld false 1 (.r 3)⟩, ⟨none, .st 1 (.r 1) (.l 2)⟩, ⟨none, .st 1 (.r 2) (.l 2)⟩, ⟨none, .st 1 (.r 3) (.l 2)⟩, ⟨none, .st 1 (.r 4) (.v (.c (.d (.int .i64 0))))⟩] [] [((.r 2), (.r 1)), ((.r 3), (.r 1)), ((.r 3), (.r 2))]) ( .ret)))⟩
theorem callN_yld2 {n id : Nat} {v v' : V} {H : Heap} {regs regs1 regs2 : List V} {p p' : Nat} {ps1 ps2 : List Nat} {asg body asg1 body1 asg2 body2 : I} {s1 s2 : St} {e : Ex} (ho : H[id]? = some (.loop true none regs [p, p'] asg body))
    (h1 : exec (zenv X n) n true asg ⟨put (put regs p v) p' v', H⟩ = some (.nrm, s1)) (ho1 : s1.heap[id]? = some (.loop true none regs1 ps1 asg1 body1))
    (h2 : exec (zenv X n) n true body ⟨s1.regs, s1.heap.set id (.loop false none regs1 ps1 asg1 body1)⟩ = some (e, s2)) (ho2 : s2.heap[id]? = some (.loop false none regs2 ps2 asg2 body2)) :
    callN X (n + 1) (.yld id) [v, v'] H = some (.c (.d (.bool (e == .nrm))), s2.heap.set id (.loop (e == .nrm) (if e == .nrm then none else some e) regs2 ps2 asg2 body2)) := by
  have : callN X (n + 1) (.yld id) [v, v'] H = match ob? H id with
      | some (.loop true none regs ps asg body) =>
        if [v, v'].length = ps.length then
          match exec (zenv X n) n true asg ⟨putAll regs ps [v, v'], H⟩ with
          | some (.nrm, s) =>
            match ob? s.heap id with
            | some (.loop true none regs1 ps1 asg1 body1) =>
              match exec (zenv X n) n true body ⟨s.regs, setOb s.heap id (.loop false none regs1 ps1 asg1 body1)⟩ with
              | some (e, s') =>
                match ob? s'.heap id with
                | some (.loop false none regs2 ps2 asg2 body2) =>
                  some (.c (.d (.bool (e == .nrm))), setOb s'.heap id (.loop (e == .nrm) (if e == .nrm then none else some e) regs2 ps2 asg2 body2))
                | _ => none
              | none => none
            | _ => none
          | _ => none
        else none
      | _ => none := rfl
  rw [this, ob_eq, ho]
  have hp : putAll regs [p, p'] [v, v'] = put (put regs p v) p' v' := rfl
  simp only [List.length_cons, List.length_nil, if_true, hp, h1, ob_eq, ho1, setOb_eq, h2, ho2]
abbrev fnLj : C := .fn 120 [] [.ptr 4 0 0]
abbrev regs71 (j : List Nat) : List V := [strV j, .c (.ptr 0 0 0), .c (.ptr 1 0 0), .c (.ptr 2 0 0), .c (.ptr 3 0 0), .any, .any, .any, .any, .any, .any, .any, .c fnLj, .any, .any, .any, .any, .any, .any]
def hp71 (j : List Nat) (l : List En) (used last err : Nat) (b : Bool) (e : Option Ex) : Heap := [.cells [.os 5 l.length 0 l.length 5 none] 0 false, .cells [.d (.int .i64 (used : Int))] 0 false, .cells [.d (.int .i64 (last : Int))] 0 false, .cells [.d (.int .i64 (err : Int))] 0 false, .cells [.d (.str j)] 0 false, .cells (eC l) l.length false, .loop b e (regs71 j) [13, 14] fn71A fn71B]
def newE (e : En) : En := { e with w := exD e.l }
theorem yl71 (hX : XOj m X) {N : Nat} {j a : List Nat} {l : List En} {used last k bh : Nat} {e : En} {st : Int} (hN : a.length + 600 ≤ N) (ha : a.length < 800000) (hb : ∀ c ∈ a, c < 256) (hl : l.length < 4096) (hla : last < 65521) (hr : readE a = (e, st, true)) (hw : isSet e.w e.l) (hwl : wfS e.l) (hel : e.l.length < 1000000) (hes : e.s.length ≤ a.length) (hc : e.chk = 0) (hk : lidxN 32 a = some k) (hka : k ≤ a.length) (hst : ((sumN last (a.take k) : Nat) : Int) = st) :
    ∃ t, callN X N (.yld 6) [strV a, i64 (bh : Int)] (hp71 j l used last 0 true none) = some (bl true, hp71 j (l ++ [newE e]) bh (sumN last (a.take k)) 0 true none ++ t) := by
  obtain ⟨N, rfl⟩ : ∃ M, N = M + 1 := ⟨N - 1, by omega⟩
  have h99 := hX.vc (k := 99) (F := fn99) rfl (f99 hX (N := N) (s := a) (by omega) ha)
  rw [hr] at h99
  have h48 := hX.vc (k := 48) (F := fn48) rfl (f48 hX (N := N) (s := e.s) (acc := e.acc) (r := e.r) (t := e.t) (w := e.w) (l := e.l) (by omega) (by omega) hw hwl hel)
  have hc' : chkE e.s e.acc e.r e.t e.l = 0 := hc
  rw [hc'] at h48
  have h79 := hX.vc (k := 79) (F := fn79) rfl (f79 hX (N := N) (by omega) hw hwl hel)
  have htk : (a.take k).length ≤ a.length := by rw [List.length_take]; omega
  have h74 := hX.vc (k := 74) (F := fn74) rfl (f74 hX (N := N) (s := a.take k) (a := last) (by omega) hla (fun c hcc => hb c (List.mem_of_mem_take hcc)) (by omega))
  have h100 : (zenv X N).prim 100 [.c (.d (.str a)), .c (.d (.int .u8 32))] = some (.c (.d (.int .i64 (k : Int)))) := by
    rw [zenv_pr]
    refine hX.prim ?_
    show (if (0 : Int) ≤ 32 ∧ a.length < 4611686018427387904 then some (I64 (oInt (lidxN (32 : Int).toNat a))) else none) = _
    rw [if_pos ⟨by omega, by omega⟩, show (32 : Int).toNat = 32 from rfl, hk]
    rfl
  have g1 : ((l.length : Int) == 4096) = false := by rw [beq_eq_false_iff_ne]; omega
  have g2 : (((sumN last (a.take k) : Nat) : Int) != st) = false := by rw [bne_eq_false_iff_eq]; exact hst
  have hel5 := eC_len l
  have htk5 : (eC l).take (l.length * 5) = eC l := List.take_of_length_le (by omega)
  have k1 : l.length + 1 ≤ 1073741824 := by omega
  have k2 : l.length + 1 < genK := by show l.length + 1 < 1000000; omega
  have g0 : ((0 : Int) != 0) = false := rfl
  have hap : eC (l ++ [newE e]) = eC l ++ [.d (.str e.s), .d (.bool e.acc), .d (.int .u8 (e.r : Int)), .d (.int .i64 e.t), .d (exD e.l)] := by rw [eC_snoc]; rfl
  have hll : (l ++ [newE e]).length = l.length + 1 := by simp
  unfold hp71
  rw [hap, hll]
  generalize sumN last (a.take k) = sm at *
  generalize eC l = ec at *
  generalize exD e.l = xd at *
  generalize l.length = n at *
  simp only [strV, i64, bl, En.ds, enC, List.map_cons, List.map_nil, Int.natCast_zero] at h99 h48 h74
  refine ⟨[.cells [.d (.str e.s), .d (.bool e.acc), .d (.int .u8 (e.r : Int)), .d (.int .i64 e.t), .d xd] 0 false, .cells [.d (.str e.s), .d (.bool e.acc), .d (.int .u8 (e.r : Int)), .d (.int .i64 e.t), .d xd] 0 false], ?_⟩
  refine (callN_yld2 (X := X) (n := N) (id := 6) (p := 13) (p' := 14) (regs := regs71 j) (regs1 := regs71 j) (regs2 := regs71 j) (ps1 := [13, 14]) (ps2 := [13, 14]) (asg := fn71A) (body := fn71B) (asg1 := fn71A) (body1 := fn71B) (asg2 := fn71A) (body2 := fn71B) (s1 := ⟨[strV j, .c (.ptr 0 0 0), .c (.ptr 1 0 0), .c (.ptr 2 0 0), .c (.ptr 3 0 0), strV a, i64 (bh : Int), .any, .any, .any, .any, .any, .c fnLj, strV a, i64 (bh : Int), .any, .any, .any, .any], [.cells [.os 5 n 0 n 5 none] 0 false, .cells [.d (.int .i64 (used : Int))] 0 false, .cells [.d (.int .i64 (last : Int))] 0 false, .cells [.d (.int .i64 ((0 : Nat) : Int))] 0 false, .cells [.d (.str j)] 0 false, .cells ec n false, .loop true none (regs71 j) [13, 14] fn71A fn71B]⟩)
    (s2 := ⟨[strV j, .c (.ptr 0 0 0), .c (.ptr 1 0 0), .c (.ptr 2 0 0), .c (.ptr 3 0 0), strV a, i64 (bh : Int), .c (.ptr 7 0 0), i64 st, bl true, i64 0, i64 (sm : Int), .c fnLj, strV a, i64 (bh : Int), bl false, bl false, bl false, bl false], [.cells [.os 5 (n + 1) 0 (n + 1) 5 none] 0 false, .cells [.d (.int .i64 (bh : Int))] 0 false, .cells [.d (.int .i64 (sm : Int))] 0 false, .cells [.d (.int .i64 ((0 : Nat) : Int))] 0 false, .cells [.d (.str j)] 0 false, .cells (ec ++ [.d (.str e.s), .d (.bool e.acc), .d (.int .u8 (e.r : Int)), .d (.int .i64 e.t), .d xd]) (n + 1) false, .loop false none (regs71 j) [13, 14] fn71A fn71B, .cells [.d (.str e.s), .d (.bool e.acc), .d (.int .u8 (e.r : Int)), .d (.int .i64 e.t), .d xd] 0 false, .cells [.d (.str e.s), .d (.bool e.acc), .d (.int .u8 (e.r : Int)), .d (.int .i64 e.t), .d xd] 0 false]⟩) (e := .nrm) rfl ?_ rfl ?_ rfl).trans rfl
  · simp only [fn71A, evs]
  · simp only [fn71B, ob?, strV, optNat, elems, lay, rep, splice, h99, h48, h79, h74, h100, g0, g1, g2, hka, hel5, htk5, k1, k2, Option.map_none, Option.map_some, Nat.zero_le, Nat.one_ne_zero, Nat.le_refl, Bool.not_true, List.take, List.drop, List.map_cons, List.map_nil, List.cons_append, List.nil_append, List.set_cons_zero, List.set_cons_succ, freeze_nil, reachV, reachC, ite_self, List.flatMap_cons, List.flatMap_nil, ↓sp_len, evs, Nat.reduceAdd]
end Mini
end Go.Proofs.YtgjlofpfbhioaaaGreatDoor
namespace Go.Proofs.YtgjlofpfbhioaaaGreatDoor
namespace Mini
open Go
variable {m : Int} {X : Ctx}
theorem yl71l (_hX : XOj m X) {N : Nat} {j a : List Nat} {l : List En} {used last bh : Nat} (hN : 1 ≤ N) (hl : l.length = 4096) :
    ∃ t, callN X N (.yld 6) [strV a, i64 (bh : Int)] (hp71 j l used last 0 true none) = some (bl false, hp71 j l used last 3 false (some .ret) ++ t) := by
  obtain ⟨N, rfl⟩ : ∃ M, N = M + 1 := ⟨N - 1, by omega⟩
  have g1 : ((l.length : Int) == 4096) = true := by rw [beq_iff_eq]; omega
  have p10 : apart (.c (.ptr 1 0 0)) (.c (.ptr 0 0 0)) = true := rfl
  have p20 : apart (.c (.ptr 2 0 0)) (.c (.ptr 0 0 0)) = true := rfl
  have p21 : apart (.c (.ptr 2 0 0)) (.c (.ptr 1 0 0)) = true := rfl
  unfold hp71
  generalize eC l = ec at *
  generalize l.length = n at *
  refine ⟨[], ?_⟩
  refine (callN_yld2 (X := X) (n := N) (id := 6) (p := 13) (p' := 14) (regs := regs71 j) (regs1 := regs71 j) (regs2 := regs71 j) (ps1 := [13, 14]) (ps2 := [13, 14]) (asg := fn71A) (body := fn71B) (asg1 := fn71A) (body1 := fn71B) (asg2 := fn71A) (body2 := fn71B) (s1 := ⟨[strV j, .c (.ptr 0 0 0), .c (.ptr 1 0 0), .c (.ptr 2 0 0), .c (.ptr 3 0 0), strV a, i64 (bh : Int), .any, .any, .any, .any, .any, .c fnLj, strV a, i64 (bh : Int), .any, .any, .any, .any], [.cells [.os 5 n 0 n 5 none] 0 false, .cells [.d (.int .i64 (used : Int))] 0 false, .cells [.d (.int .i64 (last : Int))] 0 false, .cells [.d (.int .i64 ((0 : Nat) : Int))] 0 false, .cells [.d (.str j)] 0 false, .cells ec n false, .loop true none (regs71 j) [13, 14] fn71A fn71B]⟩)
    (s2 := ⟨[strV j, .c (.ptr 0 0 0), .c (.ptr 1 0 0), .c (.ptr 2 0 0), .c (.ptr 3 0 0), strV a, i64 (bh : Int), .any, .any, .any, .any, .any, .c fnLj, strV a, i64 (bh : Int), bl true, .any, .any, .any], [.cells [.os 5 n 0 n 5 none] 0 false, .cells [.d (.int .i64 (used : Int))] 0 false, .cells [.d (.int .i64 (last : Int))] 0 false, .cells [.d (.int .i64 (3 : Int))] 0 false, .cells [.d (.str j)] 0 false, .cells ec n false, .loop false none (regs71 j) [13, 14] fn71A fn71B]⟩) (e := .ret) rfl ?_ rfl ?_ rfl).trans rfl
  · simp only [fn71A, evs]
  · simp only [fn71B, ob?, strV, splice, rg_ap, p10, p20, p21, g1, Int.cast_ofNat_Int, Option.map_none, Option.map_some, Nat.le_refl, List.take, List.drop, List.set_cons_zero, List.set_cons_succ, ↓sp_len, evs]
theorem yl71f (hX : XOj m X) {N : Nat} {j a : List Nat} {l : List En} {used last bh : Nat} {e : En} {st : Int} (hN : a.length + 600 ≤ N) (ha : a.length < 800000) (hl : l.length < 4096) (hr : readE a = (e, st, false)) :
    ∃ t, callN X N (.yld 6) [strV a, i64 (bh : Int)] (hp71 j l used last 0 true none) = some (bl false, hp71 j l used last 6 false (some .ret) ++ t) := by
  obtain ⟨N, rfl⟩ : ∃ M, N = M + 1 := ⟨N - 1, by omega⟩
  have g1 : ((l.length : Int) == 4096) = false := by rw [beq_eq_false_iff_ne]; omega
  have h99 := hX.vc (k := 99) (F := fn99) rfl (f99 hX (N := N) (s := a) (by omega) ha)
  rw [hr] at h99
  simp only [strV, i64, bl, En.ds, List.map_cons, List.map_nil] at h99
  have p10 : apart (.c (.ptr 1 0 0)) (.c (.ptr 0 0 0)) = true := rfl
  have p20 : apart (.c (.ptr 2 0 0)) (.c (.ptr 0 0 0)) = true := rfl
  have p21 : apart (.c (.ptr 2 0 0)) (.c (.ptr 1 0 0)) = true := rfl
  unfold hp71
  generalize eC l = ec at *
  generalize l.length = n at *
  refine ⟨[.cells [.d (.str e.s), .d (.bool e.acc), .d (.int .u8 (e.r : Int)), .d (.int .i64 e.t), .d e.w] 0 false], ?_⟩
  refine (callN_yld2 (X := X) (n := N) (id := 6) (p := 13) (p' := 14) (regs := regs71 j) (regs1 := regs71 j) (regs2 := regs71 j) (ps1 := [13, 14]) (ps2 := [13, 14]) (asg := fn71A) (body := fn71B) (asg1 := fn71A) (body1 := fn71B) (asg2 := fn71A) (body2 := fn71B) (s1 := ⟨[strV j, .c (.ptr 0 0 0), .c (.ptr 1 0 0), .c (.ptr 2 0 0), .c (.ptr 3 0 0), strV a, i64 (bh : Int), .any, .any, .any, .any, .any, .c fnLj, strV a, i64 (bh : Int), .any, .any, .any, .any], [.cells [.os 5 n 0 n 5 none] 0 false, .cells [.d (.int .i64 (used : Int))] 0 false, .cells [.d (.int .i64 (last : Int))] 0 false, .cells [.d (.int .i64 ((0 : Nat) : Int))] 0 false, .cells [.d (.str j)] 0 false, .cells ec n false, .loop true none (regs71 j) [13, 14] fn71A fn71B]⟩)
    (s2 := ⟨[strV j, .c (.ptr 0 0 0), .c (.ptr 1 0 0), .c (.ptr 2 0 0), .c (.ptr 3 0 0), strV a, i64 (bh : Int), .c (.ptr 7 0 0), i64 st, bl false, .any, .any, .c fnLj, strV a, i64 (bh : Int), bl false, bl true, .any, .any], [.cells [.os 5 n 0 n 5 none] 0 false, .cells [.d (.int .i64 (used : Int))] 0 false, .cells [.d (.int .i64 (last : Int))] 0 false, .cells [.d (.int .i64 (6 : Int))] 0 false, .cells [.d (.str j)] 0 false, .cells ec n false, .loop false none (regs71 j) [13, 14] fn71A fn71B, .cells [.d (.str e.s), .d (.bool e.acc), .d (.int .u8 (e.r : Int)), .d (.int .i64 e.t), .d e.w] 0 false]⟩) (e := .ret) rfl ?_ rfl ?_ rfl).trans rfl
  · simp only [fn71A, evs]
  · simp only [fn71B, ob?, strV, splice, rg_ap, p10, p20, p21, g1, h99, Int.cast_ofNat_Int, Option.map_none, Option.map_some, Nat.le_refl, Bool.not_false, List.take, List.drop, List.set_cons_zero, List.set_cons_succ, freeze_nil, reachV, reachC, ite_self, List.flatMap_cons, List.flatMap_nil, ↓sp_len, evs, Nat.reduceAdd]
theorem yl71c (hX : XOj m X) {N : Nat} {j a : List Nat} {l : List En} {used last bh : Nat} {e : En} {st : Int} (hN : a.length + 600 ≤ N) (ha : a.length < 800000) (hl : l.length < 4096) (hr : readE a = (e, st, true)) (hw : isSet e.w e.l) (hwl : wfS e.l) (hel : e.l.length < 1000000) (hes : e.s.length ≤ a.length) {c : Nat} (hc : e.chk = c) (hc0 : c ≠ 0) :
    ∃ t, callN X N (.yld 6) [strV a, i64 (bh : Int)] (hp71 j l used last 0 true none) = some (bl false, hp71 j l used last c false (some .ret) ++ t) := by
  obtain ⟨N, rfl⟩ : ∃ M, N = M + 1 := ⟨N - 1, by omega⟩
  have g1 : ((l.length : Int) == 4096) = false := by rw [beq_eq_false_iff_ne]; omega
  have h99 := hX.vc (k := 99) (F := fn99) rfl (f99 hX (N := N) (s := a) (by omega) ha)
  rw [hr] at h99
  simp only [strV, i64, bl, En.ds, List.map_cons, List.map_nil] at h99
  have h48 := hX.vc (k := 48) (F := fn48) rfl (f48 hX (N := N) (s := e.s) (acc := e.acc) (r := e.r) (t := e.t) (w := e.w) (l := e.l) (by omega) (by omega) hw hwl hel)
  have hc' : chkE e.s e.acc e.r e.t e.l = c := hc
  rw [hc'] at h48
  simp only [i64, enC] at h48
  have g2 : ((c : Int) != 0) = true := by rw [bne_iff_ne]; omega
  have p10 : apart (.c (.ptr 1 0 0)) (.c (.ptr 0 0 0)) = true := rfl
  have p20 : apart (.c (.ptr 2 0 0)) (.c (.ptr 0 0 0)) = true := rfl
  have p21 : apart (.c (.ptr 2 0 0)) (.c (.ptr 1 0 0)) = true := rfl
  unfold hp71
  generalize eC l = ec at *
  generalize l.length = n at *
  refine ⟨[.cells [.d (.str e.s), .d (.bool e.acc), .d (.int .u8 (e.r : Int)), .d (.int .i64 e.t), .d e.w] 0 false], ?_⟩
  refine (callN_yld2 (X := X) (n := N) (id := 6) (p := 13) (p' := 14) (regs := regs71 j) (regs1 := regs71 j) (regs2 := regs71 j) (ps1 := [13, 14]) (ps2 := [13, 14]) (asg := fn71A) (body := fn71B) (asg1 := fn71A) (body1 := fn71B) (asg2 := fn71A) (body2 := fn71B) (s1 := ⟨[strV j, .c (.ptr 0 0 0), .c (.ptr 1 0 0), .c (.ptr 2 0 0), .c (.ptr 3 0 0), strV a, i64 (bh : Int), .any, .any, .any, .any, .any, .c fnLj, strV a, i64 (bh : Int), .any, .any, .any, .any], [.cells [.os 5 n 0 n 5 none] 0 false, .cells [.d (.int .i64 (used : Int))] 0 false, .cells [.d (.int .i64 (last : Int))] 0 false, .cells [.d (.int .i64 ((0 : Nat) : Int))] 0 false, .cells [.d (.str j)] 0 false, .cells ec n false, .loop true none (regs71 j) [13, 14] fn71A fn71B]⟩)
    (s2 := ⟨[strV j, .c (.ptr 0 0 0), .c (.ptr 1 0 0), .c (.ptr 2 0 0), .c (.ptr 3 0 0), strV a, i64 (bh : Int), .c (.ptr 7 0 0), i64 st, bl true, i64 (c : Int), .any, .c fnLj, strV a, i64 (bh : Int), bl false, bl false, bl true, .any], [.cells [.os 5 n 0 n 5 none] 0 false, .cells [.d (.int .i64 (used : Int))] 0 false, .cells [.d (.int .i64 (last : Int))] 0 false, .cells [.d (.int .i64 (c : Int))] 0 false, .cells [.d (.str j)] 0 false, .cells ec n false, .loop false none (regs71 j) [13, 14] fn71A fn71B, .cells [.d (.str e.s), .d (.bool e.acc), .d (.int .u8 (e.r : Int)), .d (.int .i64 e.t), .d e.w] 0 false]⟩) (e := .ret) rfl ?_ rfl ?_ rfl).trans rfl
  · simp only [fn71A, evs]
  · simp only [fn71B, ob?, strV, splice, rg_ap, p10, p20, p21, g1, g2, h99, h48, Int.cast_ofNat_Int, Option.map_none, Option.map_some, Nat.le_refl, Bool.not_true, List.take, List.drop, List.map_cons, List.map_nil, List.set_cons_zero, List.set_cons_succ, freeze_nil, reachV, reachC, ite_self, List.flatMap_cons, List.flatMap_nil, ↓sp_len, evs, Nat.reduceAdd]
theorem yl71s (hX : XOj m X) {N : Nat} {j a : List Nat} {l : List En} {used last bh : Nat} {e : En} {st : Int} (hN : a.length + 600 ≤ N) (ha : a.length < 800000) (hl : l.length < 4096) (hr : readE a = (e, st, true)) (hw : isSet e.w e.l) (hwl : wfS e.l) (hel : e.l.length < 1000000) (hes : e.s.length ≤ a.length) {k : Nat} (hb : ∀ c ∈ a, c < 256) (hla : last < 65521) (hc : e.chk = 0) (hk : lidxN 32 a = some k) (hka : k ≤ a.length) (hst : ((sumN last (a.take k) : Nat) : Int) ≠ st) :
    ∃ t, callN X N (.yld 6) [strV a, i64 (bh : Int)] (hp71 j l used last 0 true none) = some (bl false, hp71 j l used last 24 false (some .ret) ++ t) := by
  obtain ⟨N, rfl⟩ : ∃ M, N = M + 1 := ⟨N - 1, by omega⟩
  have g1 : ((l.length : Int) == 4096) = false := by rw [beq_eq_false_iff_ne]; omega
  have h99 := hX.vc (k := 99) (F := fn99) rfl (f99 hX (N := N) (s := a) (by omega) ha)
  rw [hr] at h99
  simp only [strV, i64, bl, En.ds, List.map_cons, List.map_nil] at h99
  have h48 := hX.vc (k := 48) (F := fn48) rfl (f48 hX (N := N) (s := e.s) (acc := e.acc) (r := e.r) (t := e.t) (w := e.w) (l := e.l) (by omega) (by omega) hw hwl hel)
  have hc' : chkE e.s e.acc e.r e.t e.l = 0 := hc
  rw [hc'] at h48
  simp only [i64, enC, Int.natCast_zero] at h48
  have htk : (a.take k).length ≤ a.length := by rw [List.length_take]; omega
  have h74 := hX.vc (k := 74) (F := fn74) rfl (f74 hX (N := N) (s := a.take k) (a := last) (by omega) hla (fun c hcc => hb c (List.mem_of_mem_take hcc)) (by omega))
  have h100 : (zenv X N).prim 100 [.c (.d (.str a)), .c (.d (.int .u8 32))] = some (.c (.d (.int .i64 (k : Int)))) := by
    rw [zenv_pr]
    refine hX.prim ?_
    show (if (0 : Int) ≤ 32 ∧ a.length < 4611686018427387904 then some (I64 (oInt (lidxN (32 : Int).toNat a))) else none) = _
    rw [if_pos ⟨by omega, by omega⟩, show (32 : Int).toNat = 32 from rfl, hk]
    rfl
  have g0 : ((0 : Int) != 0) = false := rfl
  have g2 : (((sumN last (a.take k) : Nat) : Int) != st) = true := by rw [bne_iff_ne]; exact hst
  generalize sumN last (a.take k) = sm at *
  simp only [strV, i64] at h74
  have p10 : apart (.c (.ptr 1 0 0)) (.c (.ptr 0 0 0)) = true := rfl
  have p20 : apart (.c (.ptr 2 0 0)) (.c (.ptr 0 0 0)) = true := rfl
  have p21 : apart (.c (.ptr 2 0 0)) (.c (.ptr 1 0 0)) = true := rfl
  unfold hp71
  generalize eC l = ec at *
  generalize l.length = n at *
  refine ⟨[.cells [.d (.str e.s), .d (.bool e.acc), .d (.int .u8 (e.r : Int)), .d (.int .i64 e.t), .d e.w] 0 false], ?_⟩
  refine (callN_yld2 (X := X) (n := N) (id := 6) (p := 13) (p' := 14) (regs := regs71 j) (regs1 := regs71 j) (regs2 := regs71 j) (ps1 := [13, 14]) (ps2 := [13, 14]) (asg := fn71A) (body := fn71B) (asg1 := fn71A) (body1 := fn71B) (asg2 := fn71A) (body2 := fn71B) (s1 := ⟨[strV j, .c (.ptr 0 0 0), .c (.ptr 1 0 0), .c (.ptr 2 0 0), .c (.ptr 3 0 0), strV a, i64 (bh : Int), .any, .any, .any, .any, .any, .c fnLj, strV a, i64 (bh : Int), .any, .any, .any, .any], [.cells [.os 5 n 0 n 5 none] 0 false, .cells [.d (.int .i64 (used : Int))] 0 false, .cells [.d (.int .i64 (last : Int))] 0 false, .cells [.d (.int .i64 ((0 : Nat) : Int))] 0 false, .cells [.d (.str j)] 0 false, .cells ec n false, .loop true none (regs71 j) [13, 14] fn71A fn71B]⟩)
    (s2 := ⟨[strV j, .c (.ptr 0 0 0), .c (.ptr 1 0 0), .c (.ptr 2 0 0), .c (.ptr 3 0 0), strV a, i64 (bh : Int), .c (.ptr 7 0 0), i64 st, bl true, i64 0, i64 (sm : Int), .c fnLj, strV a, i64 (bh : Int), bl false, bl false, bl false, bl true], [.cells [.os 5 n 0 n 5 none] 0 false, .cells [.d (.int .i64 (used : Int))] 0 false, .cells [.d (.int .i64 (last : Int))] 0 false, .cells [.d (.int .i64 (24 : Int))] 0 false, .cells [.d (.str j)] 0 false, .cells ec n false, .loop false none (regs71 j) [13, 14] fn71A fn71B, .cells [.d (.str e.s), .d (.bool e.acc), .d (.int .u8 (e.r : Int)), .d (.int .i64 e.t), .d e.w] 0 false]⟩) (e := .ret) rfl ?_ rfl ?_ rfl).trans rfl
  · simp only [fn71A, evs]
  · simp only [fn71B, ob?, strV, optNat, splice, rg_ap, p10, p20, p21, g0, g1, g2, h99, h48, h74, h100, hka, Int.cast_ofNat_Int, Option.map_none, Option.map_some, Nat.zero_le, Nat.le_refl, Bool.not_true, List.take, List.drop, List.map_cons, List.map_nil, List.set_cons_zero, List.set_cons_succ, freeze_nil, reachV, reachC, ite_self, List.flatMap_cons, List.flatMap_nil, ↓sp_len, evs, Nat.reduceAdd]
end Mini
end Go.Proofs.YtgjlofpfbhioaaaGreatDoor
namespace Go.Proofs.YtgjlofpfbhioaaaGreatDoor
namespace Mini
open Go
variable {m : Int} {X : Ctx}
theorem lidx_none {c : Nat} : ∀ {s : List Nat}, lidxN c s = none → splitN c s = [s]
  | [], _ => rfl
  | x :: s, h => by
    unfold lidxN at h
    split at h
    · cases h
    · rename_i h2
      split at h
      · cases h
      · rename_i h3
        simp only [splitN, if_neg h3, lidx_none h2]
theorem lidx_lt {c : Nat} : ∀ {s : List Nat} {k : Nat}, lidxN c s = some k → k < s.length
  | [], _, h => by cases h
  | x :: s, k, h => by
    unfold lidxN at h
    split at h
    · rename_i k' h2
      cases h
      have := lidx_lt h2
      simp only [List.length_cons]; omega
    · split at h
      · cases h; simp
      · cases h
theorem readE_ok {s : List Nat} : isSet (readE s).1.w (readE s).1.l ∧ wfS (readE s).1.l ∧ (readE s).1.s.length ≤ s.length ∧ (readE s).1.l.length ≤ s.length + 1 ∧ ((readE s).2.2 = true → ∃ k, lidxN 32 s = some k ∧ k ≤ s.length) := by
  obtain ⟨h1, h2⟩ := splitN_len 32 s
  obtain ⟨h3, _⟩ := splitN_len 44 ((splitN 32 s).getD 2 [])
  have h4 := getD_len _ _ 2 h2
  have h5 := getD_len _ _ 0 h2
  have hz : isSet e0.w e0.l ∧ wfS e0.l ∧ e0.s.length ≤ s.length ∧ e0.l.length ≤ s.length + 1 ∧ (false = true → ∃ k, lidxN 32 s = some k ∧ k ≤ s.length) := ⟨.inl ⟨rfl, rfl⟩, (fun _ h => by cases h), Nat.zero_le _, Nat.zero_le _, fun h => by cases h⟩
  unfold readE
  by_cases c1 : (splitN 32 s).length < 4
  · rw [if_pos c1]; exact hz
  rw [if_neg c1]
  have hk : ∃ k, lidxN 32 s = some k ∧ k ≤ s.length := by
    cases hl : lidxN 32 s with
    | none =>
      rw [lidx_none hl] at c1
      exact absurd (by simp) c1
    | some k => exact ⟨k, rfl, Nat.le_of_lt (lidx_lt hl)⟩
  split
  · exact hz
  split
  · split
    · exact ⟨.inl ⟨rfl, rfl⟩, (fun _ h => by cases h), h5, Nat.zero_le _, fun _ => hk⟩
    split
    · refine ⟨.inr rfl, osP_wf _ _, h5, ?_, fun _ => hk⟩
      simp only [osJ]
      rw [osP_len _ (Nat.le_refl _)]
      omega
    · exact hz
  split
  · split
    · exact hz
    · exact ⟨.inl ⟨rfl, rfl⟩, (fun _ h => by cases h), h5, Nat.zero_le _, fun _ => hk⟩
  · exact hz
def sumL (la : Nat) (a : List Nat) : Nat := sumN la (a.take ((lidxN 32 a).getD 0))
def parseJ : Nat → List En → Nat → Nat → List Nat → List En × Nat × Nat × Nat
  | 0, l, u, la, _ => (l, u, la, 0)
  | f + 1, l, u, la, s => match idxN 10 s with
    | none => (l, u, la, 0)
    | some i =>
      if l.length = 4096 then (l, u, la, 3)
      else if (readE (s.take i)).2.2 = false then (l, u, la, 6)
      else if (readE (s.take i)).1.chk ≠ 0 then (l, u, la, (readE (s.take i)).1.chk)
      else if ((sumL la (s.take i) : Nat) : Int) ≠ (readE (s.take i)).2.1 then (l, u, la, 24)
      else parseJ f (l ++ [newE (readE (s.take i)).1]) (u + i + 1) (sumL la (s.take i)) (s.drop (i + 1))
abbrev R120 (u : Nat) : List V := [.c (.yld 6), .c (.ptr 4 0 0), i64 (u : Int), .any, .any]
theorem p121 (hX : XOj m X) {N : Nat} {s : List Nat} : (zenv X N).prim 121 [.c (.d (.str s)), .c (.d (.int .u8 10))] = some (.c (.d (.int .i64 (oInt (idxN 10 s))))) := by
  rw [zenv_pr]
  refine hX.prim ?_
  show (if (0 : Int) ≤ 10 ∧ (10 : Int) < 256 then some (I64 (oInt (idxN (10 : Int).toNat s))) else none) = _
  rw [if_pos ⟨by omega, by omega⟩]
  rfl
theorem r120_end (hX : XOj m X) {N : Nat} {j : List Nat} {l : List En} {u la : Nat} (_hj : j.length ≤ 1100000) (hu : u ≤ j.length) (hi : idxN 10 (j.drop u) = none) :
    ∃ r, exec (zenv X N) N false fn120L0 ⟨R120 u, hp71 j l u la 0 true none⟩ = some (.ret, ⟨r, hp71 j l u la 0 true none⟩) := by
  have hpc := p121 hX (N := N) (s := j.drop u)
  rw [hi] at hpc
  have h4 : (hp71 j l u la 0 true none)[4]? = some (.cells [.d (.str j)] 0 false) := rfl
  have ho : oInt none = -1 := rfl
  rw [ho] at hpc
  have k1 : (-1 : Int) < 0 := by omega
  have htk : j.take j.length = j := List.take_length
  generalize hp71 j l u la 0 true none = HH at *
  refine ⟨[.c (.yld 6), .c (.ptr 4 0 0), i64 (u : Int), i64 (-1), bl true], ?_⟩
  simp only [fn120L0, R120, optNat, hpc, h4, htk, hu, k1, Option.map_none, Option.map_some, Nat.le_refl, and_self, List.drop_zero, List.take, freeze_nil, reachV, reachC, ite_self, List.flatMap_cons, List.flatMap_nil, evs]
end Mini
end Go.Proofs.YtgjlofpfbhioaaaGreatDoor
