/-
  The levels of long paths with 3 policies, and the law's runs, by the kernel.
-/
import Derived.Test.YtcilepbdddgpoaaDoorMiniJH
namespace Go.Proofs.YtcilepbdddgpoaaDoor
namespace Mini
open Go

def l30g0 : V := lvl [ndR aO [aO]]
def l30g1 : V := lvl [nd (o 1 1) [aO] [(o 1 1)], nd (o 1 2) [aO] [(o 1 2)], nd (o 1 3) [aO] [(o 1 3)], nd aO [aO] [aO]]
theorem l30g1_ok : vcallN X7 200 48 [l30g0, recV 3 0 0, bl true] = some l30g1 := by
  rw [← vcallF_eq]
  kernel_rfl
def l30g2 : V := lvl [nd (o 1 1) [(o 1 1)] [(o 1 1)], nd (o 1 2) [(o 1 2)] [(o 1 2)], nd (o 1 3) [(o 1 3)] [(o 1 3)], nd (o 2 1) [aO] [(o 2 1)], nd (o 2 2) [aO] [(o 2 2)], nd (o 2 3) [aO] [(o 2 3)], nd aO [aO] [aO]]
theorem l30g2_ok : vcallN X7 200 48 [l30g1, recV 3 0 1, bl true] = some l30g2 := by
  rw [← vcallF_eq]
  kernel_rfl
def l30g3 : V := lvl [nd (o 1 1) [(o 1 1)] [(o 1 1)], nd (o 1 2) [(o 1 2)] [(o 1 2)], nd (o 1 3) [(o 1 3)] [(o 1 3)], nd (o 2 1) [(o 2 1)] [(o 2 1)], nd (o 2 2) [(o 2 2)] [(o 2 2)], nd (o 2 3) [(o 2 3)] [(o 2 3)], nd (o 3 1) [aO] [(o 3 1)], nd (o 3 2) [aO] [(o 3 2)], nd (o 3 3) [aO] [(o 3 3)], nd aO [aO] [aO]]
theorem l30g3_ok : vcallN X7 200 48 [l30g2, recV 3 0 2, bl true] = some l30g3 := by
  rw [← vcallF_eq]
  kernel_rfl
def l30g4 : V := lvl [nd (o 1 1) [(o 1 1)] [(o 1 1)], nd (o 1 2) [(o 1 2)] [(o 1 2)], nd (o 1 3) [(o 1 3)] [(o 1 3)], nd (o 2 1) [(o 2 1)] [(o 2 1)], nd (o 2 2) [(o 2 2)] [(o 2 2)], nd (o 2 3) [(o 2 3)] [(o 2 3)], nd (o 3 1) [(o 3 1)] [(o 3 1)], nd (o 3 2) [(o 3 2)] [(o 3 2)], nd (o 3 3) [(o 3 3)] [(o 3 3)], nd (o 4 1) [aO] [(o 4 1)], nd (o 4 2) [aO] [(o 4 2)], nd (o 4 3) [aO] [(o 4 3)], nd aO [aO] [aO]]
theorem l30g4_ok : vcallN X7 200 48 [l30g3, recV 3 0 3, bl true] = some l30g4 := by
  rw [← vcallF_eq]
  kernel_rfl
def l30g5 : V := lvl [nd (o 1 1) [(o 1 1)] [(o 1 1)], nd (o 1 2) [(o 1 2)] [(o 1 2)], nd (o 1 3) [(o 1 3)] [(o 1 3)], nd (o 2 1) [(o 2 1)] [(o 2 1)], nd (o 2 2) [(o 2 2)] [(o 2 2)], nd (o 2 3) [(o 2 3)] [(o 2 3)], nd (o 3 1) [(o 3 1)] [(o 3 1)], nd (o 3 2) [(o 3 2)] [(o 3 2)], nd (o 3 3) [(o 3 3)] [(o 3 3)], nd (o 4 1) [(o 4 1)] [(o 4 1)], nd (o 4 2) [(o 4 2)] [(o 4 2)], nd (o 4 3) [(o 4 3)] [(o 4 3)], nd (o 5 1) [aO] [(o 5 1)], nd (o 5 2) [aO] [(o 5 2)], nd (o 5 3) [aO] [(o 5 3)], nd aO [aO] [aO]]
theorem l30g5_ok : vcallN X7 200 48 [l30g4, recV 3 0 4, bl true] = some l30g5 := by
  rw [← vcallF_eq]
  kernel_rfl
def tab30 : Tab := [(48, [l30g0, recV 3 0 0, bl true], l30g1), (48, [l30g1, recV 3 0 1, bl true], l30g2), (48, [l30g2, recV 3 0 2, bl true], l30g3), (48, [l30g3, recV 3 0 3, bl true], l30g4), (48, [l30g4, recV 3 0 4, bl true], l30g5)]
theorem tab30_ok : ∀ x ∈ tab30, (x.1 = 48 ∨ x.1 = 49) ∧ vcallN X7 200 x.1 x.2.1 = some x.2.2 := by
  intro x hx
  simp only [tab30, List.mem_cons, List.not_mem_nil, or_false] at hx
  rcases hx with rfl | rfl | rfl | rfl | rfl
  · exact ⟨Or.inl rfl, l30g1_ok⟩
  · exact ⟨Or.inl rfl, l30g2_ok⟩
  · exact ⟨Or.inl rfl, l30g3_ok⟩
  · exact ⟨Or.inl rfl, l30g4_ok⟩
  · exact ⟨Or.inl rfl, l30g5_ok⟩

def l31l0 : V := lvl [ndR aO [aO]]
def l31g1 : V := lvl [nd (o 1 1) [aO] [(o 1 1)], nd (o 1 2) [aO] [(o 1 2)], nd (o 1 3) [aO] [(o 1 3)], nd aO [aO] [aO]]
theorem l31g1_ok : vcallN X7 200 48 [l31l0, recV 3 1 0, bl true] = some l31g1 := by
  rw [← vcallF_eq]
  kernel_rfl
def l31l1 : V := lvl [nd (o 1 1) [aO] [(o 1 1)], nd (o 1 2) [aO] [(o 1 2)], nd (o 1 3) [aO] [(o 1 3)], nd (o 1 4) [aO] [(o 1 5)], nd aO [aO] [aO]]
theorem l31l1_ok : vcallN X7 200 49 [l31g1, recV 3 1 0, bl true] = some l31l1 := by
  rw [← vcallF_eq]
  kernel_rfl
def l31g2 : V := lvl [nd (o 1 1) [(o 1 1)] [(o 1 1)], nd (o 1 2) [(o 1 2)] [(o 1 2)], nd (o 1 3) [(o 1 3)] [(o 1 3)], nd (o 1 5) [(o 1 4)] [(o 1 5)], nd (o 2 1) [aO] [(o 2 1)], nd (o 2 2) [aO] [(o 2 2)], nd (o 2 3) [aO] [(o 2 3)], nd aO [aO] [aO]]
theorem l31g2_ok : vcallN X7 200 48 [l31l1, recV 3 1 1, bl true] = some l31g2 := by
  rw [← vcallF_eq]
  kernel_rfl
def l31l2 : V := lvl [nd (o 1 1) [(o 1 1)] [(o 1 1)], nd (o 1 2) [(o 1 2)] [(o 1 2)], nd (o 1 3) [(o 1 3)] [(o 1 3)], nd (o 1 5) [(o 1 4)] [(o 1 5)], nd (o 2 1) [aO] [(o 2 1)], nd (o 2 2) [aO] [(o 2 2)], nd (o 2 3) [aO] [(o 2 3)], nd (o 2 4) [aO] [(o 2 5)], nd aO [aO] [aO]]
theorem l31l2_ok : vcallN X7 200 49 [l31g2, recV 3 1 1, bl true] = some l31l2 := by
  rw [← vcallF_eq]
  kernel_rfl
def l31g3 : V := lvl [nd (o 1 1) [(o 1 1)] [(o 1 1)], nd (o 1 2) [(o 1 2)] [(o 1 2)], nd (o 1 3) [(o 1 3)] [(o 1 3)], nd (o 1 5) [(o 1 5)] [(o 1 5)], nd (o 2 1) [(o 2 1)] [(o 2 1)], nd (o 2 2) [(o 2 2)] [(o 2 2)], nd (o 2 3) [(o 2 3)] [(o 2 3)], nd (o 2 5) [(o 2 4)] [(o 2 5)], nd (o 3 1) [aO] [(o 3 1)], nd (o 3 2) [aO] [(o 3 2)], nd (o 3 3) [aO] [(o 3 3)], nd aO [aO] [aO]]
theorem l31g3_ok : vcallN X7 200 48 [l31l2, recV 3 1 2, bl true] = some l31g3 := by
  rw [← vcallF_eq]
  kernel_rfl
def l31l3 : V := lvl [nd (o 1 1) [(o 1 1)] [(o 1 1)], nd (o 1 2) [(o 1 2)] [(o 1 2)], nd (o 1 3) [(o 1 3)] [(o 1 3)], nd (o 1 5) [(o 1 5)] [(o 1 5)], nd (o 2 1) [(o 2 1)] [(o 2 1)], nd (o 2 2) [(o 2 2)] [(o 2 2)], nd (o 2 3) [(o 2 3)] [(o 2 3)], nd (o 2 5) [(o 2 4)] [(o 2 5)], nd (o 3 1) [aO] [(o 3 1)], nd (o 3 2) [aO] [(o 3 2)], nd (o 3 3) [aO] [(o 3 3)], nd (o 3 4) [aO] [(o 3 5)], nd aO [aO] [aO]]
theorem l31l3_ok : vcallN X7 200 49 [l31g3, recV 3 1 2, bl true] = some l31l3 := by
  rw [← vcallF_eq]
  kernel_rfl
def l31g4 : V := lvl [nd (o 1 1) [(o 1 1)] [(o 1 1)], nd (o 1 2) [(o 1 2)] [(o 1 2)], nd (o 1 3) [(o 1 3)] [(o 1 3)], nd (o 1 5) [(o 1 5)] [(o 1 5)], nd (o 2 1) [(o 2 1)] [(o 2 1)], nd (o 2 2) [(o 2 2)] [(o 2 2)], nd (o 2 3) [(o 2 3)] [(o 2 3)], nd (o 2 5) [(o 2 5)] [(o 2 5)], nd (o 3 1) [(o 3 1)] [(o 3 1)], nd (o 3 2) [(o 3 2)] [(o 3 2)], nd (o 3 3) [(o 3 3)] [(o 3 3)], nd (o 3 5) [(o 3 4)] [(o 3 5)], nd (o 4 1) [aO] [(o 4 1)], nd (o 4 2) [aO] [(o 4 2)], nd (o 4 3) [aO] [(o 4 3)], nd aO [aO] [aO]]
theorem l31g4_ok : vcallN X7 200 48 [l31l3, recV 3 1 3, bl true] = some l31g4 := by
  rw [← vcallF_eq]
  kernel_rfl
def l31l4 : V := lvl [nd (o 1 1) [(o 1 1)] [(o 1 1)], nd (o 1 2) [(o 1 2)] [(o 1 2)], nd (o 1 3) [(o 1 3)] [(o 1 3)], nd (o 1 5) [(o 1 5)] [(o 1 5)], nd (o 2 1) [(o 2 1)] [(o 2 1)], nd (o 2 2) [(o 2 2)] [(o 2 2)], nd (o 2 3) [(o 2 3)] [(o 2 3)], nd (o 2 5) [(o 2 5)] [(o 2 5)], nd (o 3 1) [(o 3 1)] [(o 3 1)], nd (o 3 2) [(o 3 2)] [(o 3 2)], nd (o 3 3) [(o 3 3)] [(o 3 3)], nd (o 3 5) [(o 3 4)] [(o 3 5)], nd (o 4 1) [aO] [(o 4 1)], nd (o 4 2) [aO] [(o 4 2)], nd (o 4 3) [aO] [(o 4 3)], nd (o 4 4) [aO] [(o 4 5)], nd aO [aO] [aO]]
theorem l31l4_ok : vcallN X7 200 49 [l31g4, recV 3 1 3, bl true] = some l31l4 := by
  rw [← vcallF_eq]
  kernel_rfl
def l31g5 : V := lvl [nd (o 1 1) [(o 1 1)] [(o 1 1)], nd (o 1 2) [(o 1 2)] [(o 1 2)], nd (o 1 3) [(o 1 3)] [(o 1 3)], nd (o 1 5) [(o 1 5)] [(o 1 5)], nd (o 2 1) [(o 2 1)] [(o 2 1)], nd (o 2 2) [(o 2 2)] [(o 2 2)], nd (o 2 3) [(o 2 3)] [(o 2 3)], nd (o 2 5) [(o 2 5)] [(o 2 5)], nd (o 3 1) [(o 3 1)] [(o 3 1)], nd (o 3 2) [(o 3 2)] [(o 3 2)], nd (o 3 3) [(o 3 3)] [(o 3 3)], nd (o 3 5) [(o 3 5)] [(o 3 5)], nd (o 4 1) [(o 4 1)] [(o 4 1)], nd (o 4 2) [(o 4 2)] [(o 4 2)], nd (o 4 3) [(o 4 3)] [(o 4 3)], nd (o 4 5) [(o 4 4)] [(o 4 5)], nd (o 5 1) [aO] [(o 5 1)], nd (o 5 2) [aO] [(o 5 2)], nd (o 5 3) [aO] [(o 5 3)], nd aO [aO] [aO]]
theorem l31g5_ok : vcallN X7 200 48 [l31l4, recV 3 1 4, bl true] = some l31g5 := by
  rw [← vcallF_eq]
  kernel_rfl
def tab31 : Tab := [(48, [l31l0, recV 3 1 0, bl true], l31g1), (49, [l31g1, recV 3 1 0, bl true], l31l1), (48, [l31l1, recV 3 1 1, bl true], l31g2), (49, [l31g2, recV 3 1 1, bl true], l31l2), (48, [l31l2, recV 3 1 2, bl true], l31g3), (49, [l31g3, recV 3 1 2, bl true], l31l3), (48, [l31l3, recV 3 1 3, bl true], l31g4), (49, [l31g4, recV 3 1 3, bl true], l31l4), (48, [l31l4, recV 3 1 4, bl true], l31g5)]
theorem tab31_ok : ∀ x ∈ tab31, (x.1 = 48 ∨ x.1 = 49) ∧ vcallN X7 200 x.1 x.2.1 = some x.2.2 := by
  intro x hx
  simp only [tab31, List.mem_cons, List.not_mem_nil, or_false] at hx
  rcases hx with rfl | rfl | rfl | rfl | rfl | rfl | rfl | rfl | rfl
  · exact ⟨Or.inl rfl, l31g1_ok⟩
  · exact ⟨Or.inr rfl, l31l1_ok⟩
  · exact ⟨Or.inl rfl, l31g2_ok⟩
  · exact ⟨Or.inr rfl, l31l2_ok⟩
  · exact ⟨Or.inl rfl, l31g3_ok⟩
  · exact ⟨Or.inr rfl, l31l3_ok⟩
  · exact ⟨Or.inl rfl, l31g4_ok⟩
  · exact ⟨Or.inr rfl, l31l4_ok⟩
  · exact ⟨Or.inl rfl, l31g5_ok⟩

def l32l0 : V := lvl [ndR aO [aO]]
def l32g1 : V := lvl [nd (o 1 1) [aO] [(o 1 1)], nd (o 1 2) [aO] [(o 1 2)], nd (o 1 3) [aO] [(o 1 3)], nd aO [aO] [aO]]
theorem l32g1_ok : vcallN X7 200 48 [l32l0, recV 3 2 0, bl true] = some l32g1 := by
  rw [← vcallF_eq]
  kernel_rfl
def l32l1 : V := lvl [nd (o 1 1) [aO] [(o 1 1)], nd (o 1 2) [aO] [(o 1 2)], nd (o 1 3) [aO] [(o 1 3)], nd (o 1 4) [aO] [(o 1 6)], nd (o 1 5) [aO] [(o 1 7)], nd aO [aO] [aO]]
theorem l32l1_ok : vcallN X7 200 49 [l32g1, recV 3 2 0, bl true] = some l32l1 := by
  rw [← vcallF_eq]
  kernel_rfl
def l32g2 : V := lvl [nd (o 1 1) [(o 1 1)] [(o 1 1)], nd (o 1 2) [(o 1 2)] [(o 1 2)], nd (o 1 3) [(o 1 3)] [(o 1 3)], nd (o 1 6) [(o 1 4)] [(o 1 6)], nd (o 1 7) [(o 1 5)] [(o 1 7)], nd (o 2 1) [aO] [(o 2 1)], nd (o 2 2) [aO] [(o 2 2)], nd (o 2 3) [aO] [(o 2 3)], nd aO [aO] [aO]]
theorem l32g2_ok : vcallN X7 200 48 [l32l1, recV 3 2 1, bl true] = some l32g2 := by
  rw [← vcallF_eq]
  kernel_rfl
def l32l2 : V := lvl [nd (o 1 1) [(o 1 1)] [(o 1 1)], nd (o 1 2) [(o 1 2)] [(o 1 2)], nd (o 1 3) [(o 1 3)] [(o 1 3)], nd (o 1 6) [(o 1 4)] [(o 1 6)], nd (o 1 7) [(o 1 5)] [(o 1 7)], nd (o 2 1) [aO] [(o 2 1)], nd (o 2 2) [aO] [(o 2 2)], nd (o 2 3) [aO] [(o 2 3)], nd (o 2 4) [aO] [(o 2 6)], nd (o 2 5) [aO] [(o 2 7)], nd aO [aO] [aO]]
theorem l32l2_ok : vcallN X7 200 49 [l32g2, recV 3 2 1, bl true] = some l32l2 := by
  rw [← vcallF_eq]
  kernel_rfl
def l32g3 : V := lvl [nd (o 1 1) [(o 1 1)] [(o 1 1)], nd (o 1 2) [(o 1 2)] [(o 1 2)], nd (o 1 3) [(o 1 3)] [(o 1 3)], nd (o 1 6) [(o 1 6)] [(o 1 6)], nd (o 1 7) [(o 1 7)] [(o 1 7)], nd (o 2 1) [(o 2 1)] [(o 2 1)], nd (o 2 2) [(o 2 2)] [(o 2 2)], nd (o 2 3) [(o 2 3)] [(o 2 3)], nd (o 2 6) [(o 2 4)] [(o 2 6)], nd (o 2 7) [(o 2 5)] [(o 2 7)], nd (o 3 1) [aO] [(o 3 1)], nd (o 3 2) [aO] [(o 3 2)], nd (o 3 3) [aO] [(o 3 3)], nd aO [aO] [aO]]
theorem l32g3_ok : vcallN X7 200 48 [l32l2, recV 3 2 2, bl true] = some l32g3 := by
  rw [← vcallF_eq]
  kernel_rfl
def l32l3 : V := lvl [nd (o 1 1) [(o 1 1)] [(o 1 1)], nd (o 1 2) [(o 1 2)] [(o 1 2)], nd (o 1 3) [(o 1 3)] [(o 1 3)], nd (o 1 6) [(o 1 6)] [(o 1 6)], nd (o 1 7) [(o 1 7)] [(o 1 7)], nd (o 2 1) [(o 2 1)] [(o 2 1)], nd (o 2 2) [(o 2 2)] [(o 2 2)], nd (o 2 3) [(o 2 3)] [(o 2 3)], nd (o 2 6) [(o 2 4)] [(o 2 6)], nd (o 2 7) [(o 2 5)] [(o 2 7)], nd (o 3 1) [aO] [(o 3 1)], nd (o 3 2) [aO] [(o 3 2)], nd (o 3 3) [aO] [(o 3 3)], nd (o 3 4) [aO] [(o 3 6)], nd (o 3 5) [aO] [(o 3 7)], nd aO [aO] [aO]]
theorem l32l3_ok : vcallN X7 200 49 [l32g3, recV 3 2 2, bl true] = some l32l3 := by
  rw [← vcallF_eq]
  kernel_rfl
def l32g4 : V := lvl [nd (o 1 1) [(o 1 1)] [(o 1 1)], nd (o 1 2) [(o 1 2)] [(o 1 2)], nd (o 1 3) [(o 1 3)] [(o 1 3)], nd (o 1 6) [(o 1 6)] [(o 1 6)], nd (o 1 7) [(o 1 7)] [(o 1 7)], nd (o 2 1) [(o 2 1)] [(o 2 1)], nd (o 2 2) [(o 2 2)] [(o 2 2)], nd (o 2 3) [(o 2 3)] [(o 2 3)], nd (o 2 6) [(o 2 6)] [(o 2 6)], nd (o 2 7) [(o 2 7)] [(o 2 7)], nd (o 3 1) [(o 3 1)] [(o 3 1)], nd (o 3 2) [(o 3 2)] [(o 3 2)], nd (o 3 3) [(o 3 3)] [(o 3 3)], nd (o 3 6) [(o 3 4)] [(o 3 6)], nd (o 3 7) [(o 3 5)] [(o 3 7)], nd (o 4 1) [aO] [(o 4 1)], nd (o 4 2) [aO] [(o 4 2)], nd (o 4 3) [aO] [(o 4 3)], nd aO [aO] [aO]]
theorem l32g4_ok : vcallN X7 200 48 [l32l3, recV 3 2 3, bl true] = some l32g4 := by
  rw [← vcallF_eq]
  kernel_rfl
def l32l4 : V := lvl [nd (o 1 1) [(o 1 1)] [(o 1 1)], nd (o 1 2) [(o 1 2)] [(o 1 2)], nd (o 1 3) [(o 1 3)] [(o 1 3)], nd (o 1 6) [(o 1 6)] [(o 1 6)], nd (o 1 7) [(o 1 7)] [(o 1 7)], nd (o 2 1) [(o 2 1)] [(o 2 1)], nd (o 2 2) [(o 2 2)] [(o 2 2)], nd (o 2 3) [(o 2 3)] [(o 2 3)], nd (o 2 6) [(o 2 6)] [(o 2 6)], nd (o 2 7) [(o 2 7)] [(o 2 7)], nd (o 3 1) [(o 3 1)] [(o 3 1)], nd (o 3 2) [(o 3 2)] [(o 3 2)], nd (o 3 3) [(o 3 3)] [(o 3 3)], nd (o 3 6) [(o 3 4)] [(o 3 6)], nd (o 3 7) [(o 3 5)] [(o 3 7)], nd (o 4 1) [aO] [(o 4 1)], nd (o 4 2) [aO] [(o 4 2)], nd (o 4 3) [aO] [(o 4 3)], nd (o 4 4) [aO] [(o 4 6)], nd (o 4 5) [aO] [(o 4 7)], nd aO [aO] [aO]]
theorem l32l4_ok : vcallN X7 200 49 [l32g4, recV 3 2 3, bl true] = some l32l4 := by
  rw [← vcallF_eq]
  kernel_rfl
def l32g5 : V := lvl [nd (o 1 1) [(o 1 1)] [(o 1 1)], nd (o 1 2) [(o 1 2)] [(o 1 2)], nd (o 1 3) [(o 1 3)] [(o 1 3)], nd (o 1 6) [(o 1 6)] [(o 1 6)], nd (o 1 7) [(o 1 7)] [(o 1 7)], nd (o 2 1) [(o 2 1)] [(o 2 1)], nd (o 2 2) [(o 2 2)] [(o 2 2)], nd (o 2 3) [(o 2 3)] [(o 2 3)], nd (o 2 6) [(o 2 6)] [(o 2 6)], nd (o 2 7) [(o 2 7)] [(o 2 7)], nd (o 3 1) [(o 3 1)] [(o 3 1)], nd (o 3 2) [(o 3 2)] [(o 3 2)], nd (o 3 3) [(o 3 3)] [(o 3 3)], nd (o 3 6) [(o 3 6)] [(o 3 6)], nd (o 3 7) [(o 3 7)] [(o 3 7)], nd (o 4 1) [(o 4 1)] [(o 4 1)], nd (o 4 2) [(o 4 2)] [(o 4 2)], nd (o 4 3) [(o 4 3)] [(o 4 3)], nd (o 4 6) [(o 4 4)] [(o 4 6)], nd (o 4 7) [(o 4 5)] [(o 4 7)], nd (o 5 1) [aO] [(o 5 1)], nd (o 5 2) [aO] [(o 5 2)], nd (o 5 3) [aO] [(o 5 3)], nd aO [aO] [aO]]
theorem l32g5_ok : vcallN X7 200 48 [l32l4, recV 3 2 4, bl true] = some l32g5 := by
  rw [← vcallF_eq]
  kernel_rfl
def tab32 : Tab := [(48, [l32l0, recV 3 2 0, bl true], l32g1), (49, [l32g1, recV 3 2 0, bl true], l32l1), (48, [l32l1, recV 3 2 1, bl true], l32g2), (49, [l32g2, recV 3 2 1, bl true], l32l2), (48, [l32l2, recV 3 2 2, bl true], l32g3), (49, [l32g3, recV 3 2 2, bl true], l32l3), (48, [l32l3, recV 3 2 3, bl true], l32g4), (49, [l32g4, recV 3 2 3, bl true], l32l4), (48, [l32l4, recV 3 2 4, bl true], l32g5)]
theorem tab32_ok : ∀ x ∈ tab32, (x.1 = 48 ∨ x.1 = 49) ∧ vcallN X7 200 x.1 x.2.1 = some x.2.2 := by
  intro x hx
  simp only [tab32, List.mem_cons, List.not_mem_nil, or_false] at hx
  rcases hx with rfl | rfl | rfl | rfl | rfl | rfl | rfl | rfl | rfl
  · exact ⟨Or.inl rfl, l32g1_ok⟩
  · exact ⟨Or.inr rfl, l32l1_ok⟩
  · exact ⟨Or.inl rfl, l32g2_ok⟩
  · exact ⟨Or.inr rfl, l32l2_ok⟩
  · exact ⟨Or.inl rfl, l32g3_ok⟩
  · exact ⟨Or.inr rfl, l32l3_ok⟩
  · exact ⟨Or.inl rfl, l32g4_ok⟩
  · exact ⟨Or.inr rfl, l32l4_ok⟩
  · exact ⟨Or.inl rfl, l32g5_ok⟩

def l33l0 : V := lvl [ndR aO [aO]]
def l33g1 : V := lvl [nd (o 1 1) [aO] [(o 1 1)], nd (o 1 2) [aO] [(o 1 2)], nd (o 1 3) [aO] [(o 1 3)], nd aO [aO] [aO]]
theorem l33g1_ok : vcallN X7 200 48 [l33l0, recV 3 3 0, bl true] = some l33g1 := by
  rw [← vcallF_eq]
  kernel_rfl
def l33l1 : V := lvl [nd (o 1 1) [aO] [(o 1 1)], nd (o 1 2) [aO] [(o 1 2)], nd (o 1 3) [aO] [(o 1 3)], nd (o 1 4) [aO] [(o 1 7)], nd (o 1 5) [aO] [(o 1 8)], nd (o 1 6) [aO] [(o 1 9)], nd aO [aO] [aO]]
theorem l33l1_ok : vcallN X7 200 49 [l33g1, recV 3 3 0, bl true] = some l33l1 := by
  rw [← vcallF_eq]
  kernel_rfl
def l33g2 : V := lvl [nd (o 1 1) [(o 1 1)] [(o 1 1)], nd (o 1 2) [(o 1 2)] [(o 1 2)], nd (o 1 3) [(o 1 3)] [(o 1 3)], nd (o 1 7) [(o 1 4)] [(o 1 7)], nd (o 1 8) [(o 1 5)] [(o 1 8)], nd (o 1 9) [(o 1 6)] [(o 1 9)], nd (o 2 1) [aO] [(o 2 1)], nd (o 2 2) [aO] [(o 2 2)], nd (o 2 3) [aO] [(o 2 3)], nd aO [aO] [aO]]
theorem l33g2_ok : vcallN X7 200 48 [l33l1, recV 3 3 1, bl true] = some l33g2 := by
  rw [← vcallF_eq]
  kernel_rfl
def l33l2 : V := lvl [nd (o 1 1) [(o 1 1)] [(o 1 1)], nd (o 1 2) [(o 1 2)] [(o 1 2)], nd (o 1 3) [(o 1 3)] [(o 1 3)], nd (o 1 7) [(o 1 4)] [(o 1 7)], nd (o 1 8) [(o 1 5)] [(o 1 8)], nd (o 1 9) [(o 1 6)] [(o 1 9)], nd (o 2 1) [aO] [(o 2 1)], nd (o 2 2) [aO] [(o 2 2)], nd (o 2 3) [aO] [(o 2 3)], nd (o 2 4) [aO] [(o 2 7)], nd (o 2 5) [aO] [(o 2 8)], nd (o 2 6) [aO] [(o 2 9)], nd aO [aO] [aO]]
theorem l33l2_ok : vcallN X7 200 49 [l33g2, recV 3 3 1, bl true] = some l33l2 := by
  rw [← vcallF_eq]
  kernel_rfl
def l33g3 : V := lvl [nd (o 1 1) [(o 1 1)] [(o 1 1)], nd (o 1 2) [(o 1 2)] [(o 1 2)], nd (o 1 3) [(o 1 3)] [(o 1 3)], nd (o 1 7) [(o 1 7)] [(o 1 7)], nd (o 1 8) [(o 1 8)] [(o 1 8)], nd (o 1 9) [(o 1 9)] [(o 1 9)], nd (o 2 1) [(o 2 1)] [(o 2 1)], nd (o 2 2) [(o 2 2)] [(o 2 2)], nd (o 2 3) [(o 2 3)] [(o 2 3)], nd (o 2 7) [(o 2 4)] [(o 2 7)], nd (o 2 8) [(o 2 5)] [(o 2 8)], nd (o 2 9) [(o 2 6)] [(o 2 9)], nd (o 3 1) [aO] [(o 3 1)], nd (o 3 2) [aO] [(o 3 2)], nd (o 3 3) [aO] [(o 3 3)], nd aO [aO] [aO]]
theorem l33g3_ok : vcallN X7 200 48 [l33l2, recV 3 3 2, bl true] = some l33g3 := by
  rw [← vcallF_eq]
  kernel_rfl
def l33l3 : V := lvl [nd (o 1 1) [(o 1 1)] [(o 1 1)], nd (o 1 2) [(o 1 2)] [(o 1 2)], nd (o 1 3) [(o 1 3)] [(o 1 3)], nd (o 1 7) [(o 1 7)] [(o 1 7)], nd (o 1 8) [(o 1 8)] [(o 1 8)], nd (o 1 9) [(o 1 9)] [(o 1 9)], nd (o 2 1) [(o 2 1)] [(o 2 1)], nd (o 2 2) [(o 2 2)] [(o 2 2)], nd (o 2 3) [(o 2 3)] [(o 2 3)], nd (o 2 7) [(o 2 4)] [(o 2 7)], nd (o 2 8) [(o 2 5)] [(o 2 8)], nd (o 2 9) [(o 2 6)] [(o 2 9)], nd (o 3 1) [aO] [(o 3 1)], nd (o 3 2) [aO] [(o 3 2)], nd (o 3 3) [aO] [(o 3 3)], nd (o 3 4) [aO] [(o 3 7)], nd (o 3 5) [aO] [(o 3 8)], nd (o 3 6) [aO] [(o 3 9)], nd aO [aO] [aO]]
theorem l33l3_ok : vcallN X7 200 49 [l33g3, recV 3 3 2, bl true] = some l33l3 := by
  rw [← vcallF_eq]
  kernel_rfl
def l33g4 : V := lvl [nd (o 1 1) [(o 1 1)] [(o 1 1)], nd (o 1 2) [(o 1 2)] [(o 1 2)], nd (o 1 3) [(o 1 3)] [(o 1 3)], nd (o 1 7) [(o 1 7)] [(o 1 7)], nd (o 1 8) [(o 1 8)] [(o 1 8)], nd (o 1 9) [(o 1 9)] [(o 1 9)], nd (o 2 1) [(o 2 1)] [(o 2 1)], nd (o 2 2) [(o 2 2)] [(o 2 2)], nd (o 2 3) [(o 2 3)] [(o 2 3)], nd (o 2 7) [(o 2 7)] [(o 2 7)], nd (o 2 8) [(o 2 8)] [(o 2 8)], nd (o 2 9) [(o 2 9)] [(o 2 9)], nd (o 3 1) [(o 3 1)] [(o 3 1)], nd (o 3 2) [(o 3 2)] [(o 3 2)], nd (o 3 3) [(o 3 3)] [(o 3 3)], nd (o 3 7) [(o 3 4)] [(o 3 7)], nd (o 3 8) [(o 3 5)] [(o 3 8)], nd (o 3 9) [(o 3 6)] [(o 3 9)], nd (o 4 1) [aO] [(o 4 1)], nd (o 4 2) [aO] [(o 4 2)], nd (o 4 3) [aO] [(o 4 3)], nd aO [aO] [aO]]
theorem l33g4_ok : vcallN X7 200 48 [l33l3, recV 3 3 3, bl true] = some l33g4 := by
  rw [← vcallF_eq]
  kernel_rfl
def l33l4 : V := lvl [nd (o 1 1) [(o 1 1)] [(o 1 1)], nd (o 1 2) [(o 1 2)] [(o 1 2)], nd (o 1 3) [(o 1 3)] [(o 1 3)], nd (o 1 7) [(o 1 7)] [(o 1 7)], nd (o 1 8) [(o 1 8)] [(o 1 8)], nd (o 1 9) [(o 1 9)] [(o 1 9)], nd (o 2 1) [(o 2 1)] [(o 2 1)], nd (o 2 2) [(o 2 2)] [(o 2 2)], nd (o 2 3) [(o 2 3)] [(o 2 3)], nd (o 2 7) [(o 2 7)] [(o 2 7)], nd (o 2 8) [(o 2 8)] [(o 2 8)], nd (o 2 9) [(o 2 9)] [(o 2 9)], nd (o 3 1) [(o 3 1)] [(o 3 1)], nd (o 3 2) [(o 3 2)] [(o 3 2)], nd (o 3 3) [(o 3 3)] [(o 3 3)], nd (o 3 7) [(o 3 4)] [(o 3 7)], nd (o 3 8) [(o 3 5)] [(o 3 8)], nd (o 3 9) [(o 3 6)] [(o 3 9)], nd (o 4 1) [aO] [(o 4 1)], nd (o 4 2) [aO] [(o 4 2)], nd (o 4 3) [aO] [(o 4 3)], nd (o 4 4) [aO] [(o 4 7)], nd (o 4 5) [aO] [(o 4 8)], nd (o 4 6) [aO] [(o 4 9)], nd aO [aO] [aO]]
theorem l33l4_ok : vcallN X7 200 49 [l33g4, recV 3 3 3, bl true] = some l33l4 := by
  rw [← vcallF_eq]
  kernel_rfl
def l33g5 : V := lvl [nd (o 1 1) [(o 1 1)] [(o 1 1)], nd (o 1 2) [(o 1 2)] [(o 1 2)], nd (o 1 3) [(o 1 3)] [(o 1 3)], nd (o 1 7) [(o 1 7)] [(o 1 7)], nd (o 1 8) [(o 1 8)] [(o 1 8)], nd (o 1 9) [(o 1 9)] [(o 1 9)], nd (o 2 1) [(o 2 1)] [(o 2 1)], nd (o 2 2) [(o 2 2)] [(o 2 2)], nd (o 2 3) [(o 2 3)] [(o 2 3)], nd (o 2 7) [(o 2 7)] [(o 2 7)], nd (o 2 8) [(o 2 8)] [(o 2 8)], nd (o 2 9) [(o 2 9)] [(o 2 9)], nd (o 3 1) [(o 3 1)] [(o 3 1)], nd (o 3 2) [(o 3 2)] [(o 3 2)], nd (o 3 3) [(o 3 3)] [(o 3 3)], nd (o 3 7) [(o 3 7)] [(o 3 7)], nd (o 3 8) [(o 3 8)] [(o 3 8)], nd (o 3 9) [(o 3 9)] [(o 3 9)], nd (o 4 1) [(o 4 1)] [(o 4 1)], nd (o 4 2) [(o 4 2)] [(o 4 2)], nd (o 4 3) [(o 4 3)] [(o 4 3)], nd (o 4 7) [(o 4 4)] [(o 4 7)], nd (o 4 8) [(o 4 5)] [(o 4 8)], nd (o 4 9) [(o 4 6)] [(o 4 9)], nd (o 5 1) [aO] [(o 5 1)], nd (o 5 2) [aO] [(o 5 2)], nd (o 5 3) [aO] [(o 5 3)], nd aO [aO] [aO]]
theorem l33g5_ok : vcallN X7 200 48 [l33l4, recV 3 3 4, bl true] = some l33g5 := by
  rw [← vcallF_eq]
  kernel_rfl
def tab33 : Tab := [(48, [l33l0, recV 3 3 0, bl true], l33g1), (49, [l33g1, recV 3 3 0, bl true], l33l1), (48, [l33l1, recV 3 3 1, bl true], l33g2), (49, [l33g2, recV 3 3 1, bl true], l33l2), (48, [l33l2, recV 3 3 2, bl true], l33g3), (49, [l33g3, recV 3 3 2, bl true], l33l3), (48, [l33l3, recV 3 3 3, bl true], l33g4), (49, [l33g4, recV 3 3 3, bl true], l33l4), (48, [l33l4, recV 3 3 4, bl true], l33g5)]
theorem tab33_ok : ∀ x ∈ tab33, (x.1 = 48 ∨ x.1 = 49) ∧ vcallN X7 200 x.1 x.2.1 = some x.2.2 := by
  intro x hx
  simp only [tab33, List.mem_cons, List.not_mem_nil, or_false] at hx
  rcases hx with rfl | rfl | rfl | rfl | rfl | rfl | rfl | rfl | rfl
  · exact ⟨Or.inl rfl, l33g1_ok⟩
  · exact ⟨Or.inr rfl, l33l1_ok⟩
  · exact ⟨Or.inl rfl, l33g2_ok⟩
  · exact ⟨Or.inr rfl, l33l2_ok⟩
  · exact ⟨Or.inl rfl, l33g3_ok⟩
  · exact ⟨Or.inr rfl, l33l3_ok⟩
  · exact ⟨Or.inl rfl, l33g4_ok⟩
  · exact ⟨Or.inr rfl, l33l4_ok⟩
  · exact ⟨Or.inl rfl, l33g5_ok⟩
end Mini
end Go.Proofs.YtcilepbdddgpoaaDoor
namespace Go.Proofs.YtcilepbdddgpoaaDoor
namespace Mini
open Go
theorem run5_130 (a b c : V) : (run5 tab30 a b c 1 3 0).map (·.1) = some (.c (.d (.bool true))) := by kernel_rfl
theorem run5_230 (a b c : V) : (run5 tab30 a b c 2 3 0).map (·.1) = some (.c (.d (.bool true))) := by kernel_rfl
theorem run5_330 (a b c : V) : (run5 tab30 a b c 3 3 0).map (·.1) = some (.c (.d (.bool true))) := by kernel_rfl
theorem run5_430 (a b c : V) : (run5 tab30 a b c 4 3 0).map (·.1) = some (.c (.d (.bool true))) := by kernel_rfl
theorem run5_530 (a b c : V) : (run5 tab30 a b c 5 3 0).map (·.1) = some (.c (.d (.bool true))) := by kernel_rfl
theorem run5_131 (a b c : V) : (run5 tab31 a b c 1 3 1).map (·.1) = some (.c (.d (.bool true))) := by kernel_rfl
theorem run5_231 (a b c : V) : (run5 tab31 a b c 2 3 1).map (·.1) = some (.c (.d (.bool true))) := by kernel_rfl
theorem run5_331 (a b c : V) : (run5 tab31 a b c 3 3 1).map (·.1) = some (.c (.d (.bool true))) := by kernel_rfl
theorem run5_431 (a b c : V) : (run5 tab31 a b c 4 3 1).map (·.1) = some (.c (.d (.bool true))) := by kernel_rfl
theorem run5_531 (a b c : V) : (run5 tab31 a b c 5 3 1).map (·.1) = some (.c (.d (.bool true))) := by kernel_rfl
theorem run5_132 (a b c : V) : (run5 tab32 a b c 1 3 2).map (·.1) = some (.c (.d (.bool true))) := by kernel_rfl
theorem run5_232 (a b c : V) : (run5 tab32 a b c 2 3 2).map (·.1) = some (.c (.d (.bool true))) := by kernel_rfl
theorem run5_332 (a b c : V) : (run5 tab32 a b c 3 3 2).map (·.1) = some (.c (.d (.bool true))) := by kernel_rfl
theorem run5_432 (a b c : V) : (run5 tab32 a b c 4 3 2).map (·.1) = some (.c (.d (.bool true))) := by kernel_rfl
theorem run5_532 (a b c : V) : (run5 tab32 a b c 5 3 2).map (·.1) = some (.c (.d (.bool true))) := by kernel_rfl
theorem run5_133 (a b c : V) : (run5 tab33 a b c 1 3 3).map (·.1) = some (.c (.d (.bool true))) := by kernel_rfl
theorem run5_233 (a b c : V) : (run5 tab33 a b c 2 3 3).map (·.1) = some (.c (.d (.bool true))) := by kernel_rfl
theorem run5_333 (a b c : V) : (run5 tab33 a b c 3 3 3).map (·.1) = some (.c (.d (.bool true))) := by kernel_rfl
theorem run5_433 (a b c : V) : (run5 tab33 a b c 4 3 3).map (·.1) = some (.c (.d (.bool true))) := by kernel_rfl
theorem run5_533 (a b c : V) : (run5 tab33 a b c 5 3 3).map (·.1) = some (.c (.d (.bool true))) := by kernel_rfl
end Mini
end Go.Proofs.YtcilepbdddgpoaaDoor
