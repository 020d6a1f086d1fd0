/-
  For lengths up to 5, at most 3 policies and 3 pairs the law on levels answers true; the input reads as it did.
-/
import Derived.Test.YtcilepbdddgpoaaDoorMiniJK0
import Derived.Test.YtcilepbdddgpoaaDoorMiniJK1
import Derived.Test.YtcilepbdddgpoaaDoorMiniJK2
import Derived.Test.YtcilepbdddgpoaaDoorMiniJK3
import Derived.Test.YtcilepbdddgpoaaDoorMiniW
import Derived.Test.YtcilepbdddgpoaaDoorCards
import Derived.Test.YtcilepbdddgpoaaDoorTie
import Derived.WalkKit
import Derived.ProofKit
import Derived.OpenShut
import Derived.Deep.DeepHandedRow
import Derived.Lib.LaidTab
namespace Go.Proofs.YtcilepbdddgpoaaDoor
namespace Mini
open Go

def v8 (n : Int) : V := .c (.d (.int .u8 n))
theorem env_eq (X : Ctx) (n : Nat) : envF X (callF X n) = zenv X n := by
  simp only [envF, zenv, callF_eq, deepVF_eq]
  rfl
theorem run5_eq (t : Tab) (a b c : V) (n p m : Int) : run5 t a b c n p m = fin (exec (zenv (ctxT X8 t) 199) 199 false rest5 ⟨[a, b, c, .c (.d (.bool false)), .c (.d (.int .i64 n)), .c (.d (.int .i64 p)), .c (.d (.int .i64 m)), .any, .any, .any, .any, .any, .any, .any, .any, .any, .any, .any], []⟩) [.r 3] := by
  unfold run5
  rw [forceL_eq, execF_eq, env_eq]
  rfl
theorem body5 : fn5'.body = .seq (.reg false [⟨none, .mov (.v (.c (.d (.bool false))))⟩] [(3, 0)] []) (.seq (.reg false [⟨none, .mov (.r 0)⟩,
    ⟨none, .bin .rem (.l 0) (.v (.c (.d (.int .u8 5))))⟩,
    ⟨none, .cvi .i64 (.l 0)⟩,
    ⟨none, .bin .add (.v (.c (.d (.int .i64 1)))) (.l 0)⟩,
    ⟨none, .mov (.r 1)⟩,
    ⟨none, .bin .rem (.l 0) (.v (.c (.d (.int .u8 4))))⟩,
    ⟨none, .cvi .i64 (.l 0)⟩,
    ⟨none, .mov (.r 2)⟩,
    ⟨none, .bin .rem (.l 0) (.v (.c (.d (.int .u8 4))))⟩,
    ⟨none, .cvi .i64 (.l 0)⟩,
    ⟨none, .mov (.l 6)⟩,
    ⟨none, .mov (.l 4)⟩,
    ⟨none, .mov (.l 2)⟩] [(4, 2), (5, 1), (6, 0)] []) rest5) := rfl
theorem core {t : Tab} {n p m N P M : Nat} (hN : n % 5 + 1 = N) (hP : p % 4 = P) (hM : m % 4 = M) (h : (run5 t (v8 n) (v8 p) (v8 m) N P M).map (·.1) = some (.c (.d (.bool true)))) : vcallN (ctxT X8 t) 200 5 [v8 n, v8 p, v8 m] = some (bl true) := by
  obtain ⟨⟨r, H⟩, hr, he⟩ := Option.map_eq_some_iff.1 h
  simp only at he
  subst he
  rw [run5_eq] at hr
  have hX : (ctxT X8 t).fns 5 = some fn5' := rfl
  refine vcall_of (r := bl true) (H := H) ?_ rfl
  rw [callN_fn hX]
  refine (rf_fin (zenv (ctxT X8 t) 199) 199 3 18 _ _ fn5'.body _ _ (by rfl)).trans ?_
  rw [body5]
  have e1 : (n : Int).tmod 5 = ((n % 5 : Nat) : Int) := by rw [show (5 : Int) = ((5 : Nat) : Int) from rfl, ← Int.ofNat_tmod]
  have e2 : (p : Int).tmod 4 = (P : Int) := by rw [show (4 : Int) = ((4 : Nat) : Int) from rfl, ← Int.ofNat_tmod, hP]
  have e3 : (m : Int).tmod 4 = (M : Int) := by rw [show (4 : Int) = ((4 : Nat) : Int) from rfl, ← Int.ofNat_tmod, hM]
  have e4 : IntKind.i64.wrap ((n % 5 : Nat) : Int) = ((n % 5 : Nat) : Int) := wrap_nat (by omega)
  have e5 : IntKind.i64.wrap (P : Int) = (P : Int) := wrap_nat (by omega)
  have e6 : IntKind.i64.wrap (M : Int) = (M : Int) := wrap_nat (by omega)
  have e7 : IntKind.i64.wrap (1 + ((n % 5 : Nat) : Int)) = (N : Int) := i64_id (by omega) (by omega)
  simp only [v8] at hr
  simp only [v8, pad, List.replicate, Nat.reduceSub, List.cons_append, List.nil_append, e1, e2, e3, e4, e5, e6, e7, hr, cont_some, ro_nil, ro_none, ex_seq, sq_nrm, ex_reg, rg_some, Mini.step, stepP, stepE, O.eff, Mini.look, nth, put, exports, bin, binInt, bl, List.length_cons, List.length_nil, Option.map_some, if_true, if_false, Nat.zero_add, Int.reduceEq, Bool.false_eq_true, Nat.reduceAdd]
theorem law5_ok (n p m : Nat) : ∃ X, CtxOk Tryd.prog X ∧ X.glob = (fun _ => none) ∧ vcallN X 200 5 [v8 n, v8 p, v8 m] = some (bl true) := by
  have hn : n % 5 < 5 := Nat.mod_lt _ (by omega)
  have hp : p % 4 < 4 := Nat.mod_lt _ (by omega)
  have hm : m % 4 < 4 := Nat.mod_lt _ (by omega)
  have fin5 : ∀ {t : Tab} {N P M : Nat}, (∀ x ∈ t, (x.1 = 48 ∨ x.1 = 49) ∧ vcallN X7 200 x.1 x.2.1 = some x.2.2) → n % 5 + 1 = N → p % 4 = P → m % 4 = M → (run5 t (v8 n) (v8 p) (v8 m) N P M).map (·.1) = some (.c (.d (.bool true))) → ∃ X, CtxOk Tryd.prog X ∧ X.glob = (fun _ => none) ∧ vcallN X 200 5 [v8 n, v8 p, v8 m] = some (bl true) :=
    fun ht h1 h2 h3 h => ⟨_, ctxT_ok ht, rfl, core h1 h2 h3 h⟩
  have c1 : n % 5 = 0 ∨ n % 5 = 1 ∨ n % 5 = 2 ∨ n % 5 = 3 ∨ n % 5 = 4 := by omega
  have c2 : p % 4 = 0 ∨ p % 4 = 1 ∨ p % 4 = 2 ∨ p % 4 = 3 := by omega
  have c3 : m % 4 = 0 ∨ m % 4 = 1 ∨ m % 4 = 2 ∨ m % 4 = 3 := by omega
  rcases c1 with h1 | h1 | h1 | h1 | h1 <;> rcases c2 with h2 | h2 | h2 | h2 <;> rcases c3 with h3 | h3 | h3 | h3
  · exact fin5 tab00_ok (N := 1) (P := 0) (M := 0) (by rw [h1]) h2 h3 (run5_100 _ _ _)
  · exact fin5 tab01_ok (N := 1) (P := 0) (M := 1) (by rw [h1]) h2 h3 (run5_101 _ _ _)
  · exact fin5 tab02_ok (N := 1) (P := 0) (M := 2) (by rw [h1]) h2 h3 (run5_102 _ _ _)
  · exact fin5 tab03_ok (N := 1) (P := 0) (M := 3) (by rw [h1]) h2 h3 (run5_103 _ _ _)
  · exact fin5 tab10_ok (N := 1) (P := 1) (M := 0) (by rw [h1]) h2 h3 (run5_110 _ _ _)
  · exact fin5 tab11_ok (N := 1) (P := 1) (M := 1) (by rw [h1]) h2 h3 (run5_111 _ _ _)
  · exact fin5 tab12_ok (N := 1) (P := 1) (M := 2) (by rw [h1]) h2 h3 (run5_112 _ _ _)
  · exact fin5 tab13_ok (N := 1) (P := 1) (M := 3) (by rw [h1]) h2 h3 (run5_113 _ _ _)
  · exact fin5 tab20_ok (N := 1) (P := 2) (M := 0) (by rw [h1]) h2 h3 (run5_120 _ _ _)
  · exact fin5 tab21_ok (N := 1) (P := 2) (M := 1) (by rw [h1]) h2 h3 (run5_121 _ _ _)
  · exact fin5 tab22_ok (N := 1) (P := 2) (M := 2) (by rw [h1]) h2 h3 (run5_122 _ _ _)
  · exact fin5 tab23_ok (N := 1) (P := 2) (M := 3) (by rw [h1]) h2 h3 (run5_123 _ _ _)
  · exact fin5 tab30_ok (N := 1) (P := 3) (M := 0) (by rw [h1]) h2 h3 (run5_130 _ _ _)
  · exact fin5 tab31_ok (N := 1) (P := 3) (M := 1) (by rw [h1]) h2 h3 (run5_131 _ _ _)
  · exact fin5 tab32_ok (N := 1) (P := 3) (M := 2) (by rw [h1]) h2 h3 (run5_132 _ _ _)
  · exact fin5 tab33_ok (N := 1) (P := 3) (M := 3) (by rw [h1]) h2 h3 (run5_133 _ _ _)
  · exact fin5 tab00_ok (N := 2) (P := 0) (M := 0) (by rw [h1]) h2 h3 (run5_200 _ _ _)
  · exact fin5 tab01_ok (N := 2) (P := 0) (M := 1) (by rw [h1]) h2 h3 (run5_201 _ _ _)
  · exact fin5 tab02_ok (N := 2) (P := 0) (M := 2) (by rw [h1]) h2 h3 (run5_202 _ _ _)
  · exact fin5 tab03_ok (N := 2) (P := 0) (M := 3) (by rw [h1]) h2 h3 (run5_203 _ _ _)
  · exact fin5 tab10_ok (N := 2) (P := 1) (M := 0) (by rw [h1]) h2 h3 (run5_210 _ _ _)
  · exact fin5 tab11_ok (N := 2) (P := 1) (M := 1) (by rw [h1]) h2 h3 (run5_211 _ _ _)
  · exact fin5 tab12_ok (N := 2) (P := 1) (M := 2) (by rw [h1]) h2 h3 (run5_212 _ _ _)
  · exact fin5 tab13_ok (N := 2) (P := 1) (M := 3) (by rw [h1]) h2 h3 (run5_213 _ _ _)
  · exact fin5 tab20_ok (N := 2) (P := 2) (M := 0) (by rw [h1]) h2 h3 (run5_220 _ _ _)
  · exact fin5 tab21_ok (N := 2) (P := 2) (M := 1) (by rw [h1]) h2 h3 (run5_221 _ _ _)
  · exact fin5 tab22_ok (N := 2) (P := 2) (M := 2) (by rw [h1]) h2 h3 (run5_222 _ _ _)
  · exact fin5 tab23_ok (N := 2) (P := 2) (M := 3) (by rw [h1]) h2 h3 (run5_223 _ _ _)
  · exact fin5 tab30_ok (N := 2) (P := 3) (M := 0) (by rw [h1]) h2 h3 (run5_230 _ _ _)
  · exact fin5 tab31_ok (N := 2) (P := 3) (M := 1) (by rw [h1]) h2 h3 (run5_231 _ _ _)
  · exact fin5 tab32_ok (N := 2) (P := 3) (M := 2) (by rw [h1]) h2 h3 (run5_232 _ _ _)
  · exact fin5 tab33_ok (N := 2) (P := 3) (M := 3) (by rw [h1]) h2 h3 (run5_233 _ _ _)
  · exact fin5 tab00_ok (N := 3) (P := 0) (M := 0) (by rw [h1]) h2 h3 (run5_300 _ _ _)
  · exact fin5 tab01_ok (N := 3) (P := 0) (M := 1) (by rw [h1]) h2 h3 (run5_301 _ _ _)
  · exact fin5 tab02_ok (N := 3) (P := 0) (M := 2) (by rw [h1]) h2 h3 (run5_302 _ _ _)
  · exact fin5 tab03_ok (N := 3) (P := 0) (M := 3) (by rw [h1]) h2 h3 (run5_303 _ _ _)
  · exact fin5 tab10_ok (N := 3) (P := 1) (M := 0) (by rw [h1]) h2 h3 (run5_310 _ _ _)
  · exact fin5 tab11_ok (N := 3) (P := 1) (M := 1) (by rw [h1]) h2 h3 (run5_311 _ _ _)
  · exact fin5 tab12_ok (N := 3) (P := 1) (M := 2) (by rw [h1]) h2 h3 (run5_312 _ _ _)
  · exact fin5 tab13_ok (N := 3) (P := 1) (M := 3) (by rw [h1]) h2 h3 (run5_313 _ _ _)
  · exact fin5 tab20_ok (N := 3) (P := 2) (M := 0) (by rw [h1]) h2 h3 (run5_320 _ _ _)
  · exact fin5 tab21_ok (N := 3) (P := 2) (M := 1) (by rw [h1]) h2 h3 (run5_321 _ _ _)
  · exact fin5 tab22_ok (N := 3) (P := 2) (M := 2) (by rw [h1]) h2 h3 (run5_322 _ _ _)
  · exact fin5 tab23_ok (N := 3) (P := 2) (M := 3) (by rw [h1]) h2 h3 (run5_323 _ _ _)
  · exact fin5 tab30_ok (N := 3) (P := 3) (M := 0) (by rw [h1]) h2 h3 (run5_330 _ _ _)
  · exact fin5 tab31_ok (N := 3) (P := 3) (M := 1) (by rw [h1]) h2 h3 (run5_331 _ _ _)
  · exact fin5 tab32_ok (N := 3) (P := 3) (M := 2) (by rw [h1]) h2 h3 (run5_332 _ _ _)
  · exact fin5 tab33_ok (N := 3) (P := 3) (M := 3) (by rw [h1]) h2 h3 (run5_333 _ _ _)
  · exact fin5 tab00_ok (N := 4) (P := 0) (M := 0) (by rw [h1]) h2 h3 (run5_400 _ _ _)
  · exact fin5 tab01_ok (N := 4) (P := 0) (M := 1) (by rw [h1]) h2 h3 (run5_401 _ _ _)
  · exact fin5 tab02_ok (N := 4) (P := 0) (M := 2) (by rw [h1]) h2 h3 (run5_402 _ _ _)
  · exact fin5 tab03_ok (N := 4) (P := 0) (M := 3) (by rw [h1]) h2 h3 (run5_403 _ _ _)
  · exact fin5 tab10_ok (N := 4) (P := 1) (M := 0) (by rw [h1]) h2 h3 (run5_410 _ _ _)
  · exact fin5 tab11_ok (N := 4) (P := 1) (M := 1) (by rw [h1]) h2 h3 (run5_411 _ _ _)
  · exact fin5 tab12_ok (N := 4) (P := 1) (M := 2) (by rw [h1]) h2 h3 (run5_412 _ _ _)
  · exact fin5 tab13_ok (N := 4) (P := 1) (M := 3) (by rw [h1]) h2 h3 (run5_413 _ _ _)
  · exact fin5 tab20_ok (N := 4) (P := 2) (M := 0) (by rw [h1]) h2 h3 (run5_420 _ _ _)
  · exact fin5 tab21_ok (N := 4) (P := 2) (M := 1) (by rw [h1]) h2 h3 (run5_421 _ _ _)
  · exact fin5 tab22_ok (N := 4) (P := 2) (M := 2) (by rw [h1]) h2 h3 (run5_422 _ _ _)
  · exact fin5 tab23_ok (N := 4) (P := 2) (M := 3) (by rw [h1]) h2 h3 (run5_423 _ _ _)
  · exact fin5 tab30_ok (N := 4) (P := 3) (M := 0) (by rw [h1]) h2 h3 (run5_430 _ _ _)
  · exact fin5 tab31_ok (N := 4) (P := 3) (M := 1) (by rw [h1]) h2 h3 (run5_431 _ _ _)
  · exact fin5 tab32_ok (N := 4) (P := 3) (M := 2) (by rw [h1]) h2 h3 (run5_432 _ _ _)
  · exact fin5 tab33_ok (N := 4) (P := 3) (M := 3) (by rw [h1]) h2 h3 (run5_433 _ _ _)
  · exact fin5 tab00_ok (N := 5) (P := 0) (M := 0) (by rw [h1]) h2 h3 (run5_500 _ _ _)
  · exact fin5 tab01_ok (N := 5) (P := 0) (M := 1) (by rw [h1]) h2 h3 (run5_501 _ _ _)
  · exact fin5 tab02_ok (N := 5) (P := 0) (M := 2) (by rw [h1]) h2 h3 (run5_502 _ _ _)
  · exact fin5 tab03_ok (N := 5) (P := 0) (M := 3) (by rw [h1]) h2 h3 (run5_503 _ _ _)
  · exact fin5 tab10_ok (N := 5) (P := 1) (M := 0) (by rw [h1]) h2 h3 (run5_510 _ _ _)
  · exact fin5 tab11_ok (N := 5) (P := 1) (M := 1) (by rw [h1]) h2 h3 (run5_511 _ _ _)
  · exact fin5 tab12_ok (N := 5) (P := 1) (M := 2) (by rw [h1]) h2 h3 (run5_512 _ _ _)
  · exact fin5 tab13_ok (N := 5) (P := 1) (M := 3) (by rw [h1]) h2 h3 (run5_513 _ _ _)
  · exact fin5 tab20_ok (N := 5) (P := 2) (M := 0) (by rw [h1]) h2 h3 (run5_520 _ _ _)
  · exact fin5 tab21_ok (N := 5) (P := 2) (M := 1) (by rw [h1]) h2 h3 (run5_521 _ _ _)
  · exact fin5 tab22_ok (N := 5) (P := 2) (M := 2) (by rw [h1]) h2 h3 (run5_522 _ _ _)
  · exact fin5 tab23_ok (N := 5) (P := 2) (M := 3) (by rw [h1]) h2 h3 (run5_523 _ _ _)
  · exact fin5 tab30_ok (N := 5) (P := 3) (M := 0) (by rw [h1]) h2 h3 (run5_530 _ _ _)
  · exact fin5 tab31_ok (N := 5) (P := 3) (M := 1) (by rw [h1]) h2 h3 (run5_531 _ _ _)
  · exact fin5 tab32_ok (N := 5) (P := 3) (M := 2) (by rw [h1]) h2 h3 (run5_532 _ _ _)
  · exact fin5 tab33_ok (N := 5) (P := 3) (M := 3) (by rw [h1]) h2 h3 (run5_533 _ _ _)
end Mini
end Go.Proofs.YtcilepbdddgpoaaDoor
namespace Go.Proofs.YtcilepbdddgpoaaDoor.familiesLevels
open Go Go.ChangeShapes Go.WideShapes Go.ChangeAt Go.RowKit Go.Proofs.YtcilepbdddgpoaaDoor.Mini

theorem own : ownKnob Tryd.prog.godebug = none := by kernel_rfl

set_option maxRecDepth 100000 in
theorem contract (H : Type) (enc : TypeId × Value → H) (W : World) (base : Nat) (args : Array Value) (ds gs : List (DataW H)) (before : List MemPlace)
    (hval : ∀ (j : Nat) t v, Tryd.f5.params[j]? = some t → args[j]? = some v → Value.okWide Tryd.prog W .any base t v)
    (hW : DataW.Whole enc Tryd.prog Tryd.f5.params.toList Rows.familiesLevelsSpec.vars false W args.toList ds gs before) :
    Calls Tryd.prog 5 args W fun e W' => ∃ v, e = .returned v ∧ Rows.familiesLevelsSpec.post enc Tryd.prog Tryd.f5 false true false false W args v W' := by
  have hW' := hW
  obtain ⟨p, q, hA0, hV, rfl, hfz, hnd⟩ := hW
  have hA : DataW.TrodAll enc Tryd.prog W 0 (fun _ => true) true Tryd.f5.params.toList args.toList ds p := hA0
  rw [Tryd.params5] at hA hval
  obtain ⟨v0, vs0, d0, ds0, p0, q0, hargs0, rfl, rfl, h0, r0⟩ := trodAll_cons hA
  obtain ⟨v1, vs1, d1, ds1, p1, q1, hargs1, rfl, rfl, h1, r1⟩ := trodAll_cons r0
  obtain ⟨v2, vs2, d2, ds2, p2, q2, hargs2, rfl, rfl, h2, r2⟩ := trodAll_cons r1
  obtain ⟨rfl, rfl, rfl⟩ := trodAll_nil r2
  subst hargs1
  subst hargs2
  obtain rfl : args = #[v0, v1, v2] := by cases args; simp_all
  obtain ⟨rfl, rfl⟩ := trodVars_none hV
  obtain ⟨x0, rfl, rfl, rfl, w0⟩ := open_int Tryd.underlying5 (hval 0 5 v0 (by simp) (by simp)) h0
  obtain ⟨x1, rfl, rfl, rfl, w1⟩ := open_int Tryd.underlying5 (hval 1 5 v1 (by simp) (by simp)) h1
  obtain ⟨x2, rfl, rfl, rfl, w2⟩ := open_int Tryd.underlying5 (hval 2 5 v2 (by simp) (by simp)) h2
  clear hA0
  simp only [List.append_nil] at hW'
  have walk : Calls Tryd.prog 5 #[.int .u8 x0, .int .u8 x1, .int .u8 x2] W fun e W' => e = .returned (.bool true) ∧ Below W.heap.size W W' := by
    obtain ⟨a, rfl, _⟩ := u8_nat w0
    obtain ⟨b, rfl, _⟩ := u8_nat w1
    obtain ⟨c, rfl, _⟩ := u8_nat w2
    obtain ⟨X, hX, hg, hr⟩ := law5_ok a b c
    exact calls_true (us := [.int .u8 a, .int .u8 b, .int .u8 c]) hX hg hr (by simp [v8, RelVs, relV_int]) rfl
  refine walk.mono fun e W' ⟨he, hb⟩ => ?_
  subst he
  exact ⟨_, rfl, post_below (pa := []) (pv := []) hW' (fun _ _ _ => trodAll_cons_mk (shut_bool Tryd.underlying4 _) trodAll_mk0)
    (fun _ _ => trodAll_cons_mk (shut_int Tryd.underlying5 w0) (trodAll_cons_mk (shut_int Tryd.underlying5 w1) (trodAll_cons_mk (shut_int Tryd.underlying5 w2) (trodAll_mk0)))) (fun _ _ => rfl) rfl hb (ok_one (by kernel_rfl) rfl (okWide_bool_mk Tryd.underlying4 _))⟩

set_option maxRecDepth 100000 in
/-- A world for the witness: the tables hold what their initialisers lay. -/
noncomputable def laidWorld (os : Os) : World :=
  let w := World.holding Tryd.prog os ⟨#[], #[], []⟩
  { w with heap := ((w.heap.modify 0 fun
      | .cells _ t frozen => .cells #[.int .u64 1, .int .u64 10, .int .u64 100, .int .u64 1000, .int .u64 10000, .int .u64 100000, .int .u64 1000000, .int .u64 10000000, .int .u64 100000000, .int .u64 1000000000, .int .u64 10000000000, .int .u64 100000000000, .int .u64 1000000000000, .int .u64 10000000000000, .int .u64 100000000000000, .int .u64 1000000000000000, .int .u64 10000000000000000, .int .u64 100000000000000000, .int .u64 1000000000000000000, .int .u64 10000000000000000000] t frozen
      | o => o).modify 2 fun
      | .cells _ t frozen => .cells #[.int .u8 0, .int .u8 1, .int .u8 28, .int .u8 2, .int .u8 29, .int .u8 14, .int .u8 24, .int .u8 3, .int .u8 30, .int .u8 22, .int .u8 20, .int .u8 15, .int .u8 25, .int .u8 17, .int .u8 4, .int .u8 8, .int .u8 31, .int .u8 27, .int .u8 13, .int .u8 23, .int .u8 21, .int .u8 19, .int .u8 16, .int .u8 7, .int .u8 26, .int .u8 12, .int .u8 18, .int .u8 6, .int .u8 11, .int .u8 5, .int .u8 10, .int .u8 9] t frozen
      | o => o).modify 3 fun
      | .cells _ t frozen => .cells #[.int .u8 0, .int .u8 1, .int .u8 56, .int .u8 2, .int .u8 57, .int .u8 49, .int .u8 28, .int .u8 3, .int .u8 61, .int .u8 58, .int .u8 42, .int .u8 50, .int .u8 38, .int .u8 29, .int .u8 17, .int .u8 4, .int .u8 62, .int .u8 47, .int .u8 59, .int .u8 36, .int .u8 45, .int .u8 43, .int .u8 51, .int .u8 22, .int .u8 53, .int .u8 39, .int .u8 33, .int .u8 30, .int .u8 24, .int .u8 18, .int .u8 12, .int .u8 5, .int .u8 63, .int .u8 55, .int .u8 48, .int .u8 27, .int .u8 60, .int .u8 41, .int .u8 37, .int .u8 16, .int .u8 46, .int .u8 35, .int .u8 44, .int .u8 21, .int .u8 52, .int .u8 32, .int .u8 23, .int .u8 11, .int .u8 54, .int .u8 26, .int .u8 40, .int .u8 15, .int .u8 34, .int .u8 20, .int .u8 31, .int .u8 10, .int .u8 25, .int .u8 14, .int .u8 19, .int .u8 9, .int .u8 13, .int .u8 8, .int .u8 7, .int .u8 6] t frozen
      | o => o }
theorem laid_met (os : Os) : laidMet Tryd.prog Rows.familiesLevelsRow.laid ((laidWorld os).forCall (fun _ _ => 0) ⟨#[], #[.int .u8 0, .int .u8 0, .int .u8 0], []⟩).memory :=
  laidMet_of_run' 8 (by kernel_rfl) (by kernel_rfl)
theorem reads (os : Os) {H : Type} (enc : TypeId × Value → H) : ∃ places, DataW.whole enc Tryd.prog ((laidWorld os).forCall (fun _ _ => 0) ⟨#[], #[.int .u8 0, .int .u8 0, .int .u8 0], []⟩).memory Tryd.f5.params.toList Rows.familiesLevelsSpec.vars false #[Value.int .u8 0, Value.int .u8 0, Value.int .u8 0].toList 8 = some ([.lit (.int .u8 0), .lit (.int .u8 0), .lit (.int .u8 0)], [], places) :=
  ⟨[], by kernel_rfl⟩

set_option maxRecDepth 100000 in
theorem lifted (os : Os) (started : os.Started) (H : Type) (enc : TypeId × Value → H) (F : Stop.Interp) :
    ReturnsInHanded {} Tryd.checked os 5 .any ((OpenSpec.ofChange Rows.familiesLevelsSpec).preRow enc Tryd.prog Tryd.f5 Rows.familiesLevelsRow.domain false Rows.familiesLevelsRow.laid) (((OpenSpec.ofChange Rows.familiesLevelsSpec).at F).post enc Tryd.prog Tryd.f5 false true false false) := by
  obtain ⟨places, hx⟩ := reads os enc
  refine returnsInHanded_of_row (C := Tryd.checked) (s := OpenSpec.ofChange Rows.familiesLevelsSpec) own started (by kernel_rfl) Tryd.func5
    (witness_row_at (enc := enc) (C := Tryd.checked) false (laidWorld os) #[.int .u8 0, .int .u8 0, .int .u8 0] rfl (by kernel_rfl) (by kernel_rfl) (by kernel_rfl)
      (OpenSpec.preRow_of_cond 8 hx (by kernel_rfl) (fun k hk => by cases hk) (by kernel_rfl) (laid_met os))) ?_
  intro W base args ds gs before hval hW _ _ _ _ _ _
  exact contract H enc W base args ds gs before hval hW

theorem said : Rows.FamiliesLevelsSaid :=
  OpenClaim.holds_of_cond 5 Tryd.f5 rfl rfl rfl rfl rfl rfl rfl ⟨rfl, rfl, rfl, rfl, rfl⟩ rfl rfl rfl rfl rfl (by kernel_rfl) Tryd.func5 (by kernel_rfl)
    (of_decide_eq_true (by kernel_rfl)) (by unfold Func.isWrapper; first | (rw [if_pos (by decide +kernel)]; kernel_rfl) | (rw [if_neg (by decide +kernel)]; exact ⟨rfl, rfl⟩))
    (fun os started H enc _ F => by rw [OpenClaim.pre_eq_preRow]; exact lifted os started H enc F)

theorem plain (f : FuncId) (fn : Func) (hf : Tryd.pinned.checked.prog.funcNamed "vidimus/vidimuslaw35.FamiliesLevels" = some f) (hfn : Tryd.pinned.checked.prog.funcs[f]? = some fn) :
    false = Tryd.pinned.checked.prog.looks [] ∧ ∀ (j : Nat) t, fn.params[j]? = some t → Tryd.pinned.checked.prog.wantsStandIn t = false := by
  obtain rfl : f = 5 := Option.some.inj ((show Tryd.prog.funcNamed "vidimus/vidimuslaw35.FamiliesLevels" = some 5 by kernel_rfl).symm.trans hf) |>.symm
  obtain rfl : fn = Tryd.f5 := (Option.some.inj (Tryd.func5.symm.trans hfn)).symm
  refine ⟨by kernel_rfl, fun j t ht => ?_⟩
  rw [Tryd.params5] at ht
  obtain rfl : t = 5 := by simpa using Array.mem_of_getElem? ht
  exact (show Tryd.prog.wantsStandIn 5 = false by kernel_rfl)

theorem card : Rows.FamiliesLevelsCardSaid :=
  Claim7.holds_tied_plain_at .later [] _ _ _ _ said (fun _ h => by cases h) (by kernel_rfl) (fun _ h => by cases h) familiesLevels_row_tie rfl ⟨rfl, rfl⟩ (by kernel_rfl) rfl plain (by kernel_rfl)
end Go.Proofs.YtcilepbdddgpoaaDoor.familiesLevels
