/-
  The levels of long paths with 2 policies, and the law's runs, by the kernel.
-/
import Derived.Test.YtcilepbdddgpoaaDoorMiniJH
namespace Go.Proofs.YtcilepbdddgpoaaDoor
namespace Mini
open Go

def l20g0 : V := lvl [ndR aO [aO]]
def l20g1 : V := lvl [nd (o 1 1) [aO] [(o 1 1)], nd (o 1 2) [aO] [(o 1 2)], nd aO [aO] [aO]]
theorem l20g1_ok : vcallN X7 200 48 [l20g0, recV 2 0 0, bl true] = some l20g1 := by
  rw [← vcallF_eq]
  kernel_rfl
def l20g2 : V := lvl [nd (o 1 1) [(o 1 1)] [(o 1 1)], nd (o 1 2) [(o 1 2)] [(o 1 2)], nd (o 2 1) [aO] [(o 2 1)], nd (o 2 2) [aO] [(o 2 2)], nd aO [aO] [aO]]
theorem l20g2_ok : vcallN X7 200 48 [l20g1, recV 2 0 1, bl true] = some l20g2 := by
  rw [← vcallF_eq]
  kernel_rfl
def l20g3 : V := lvl [nd (o 1 1) [(o 1 1)] [(o 1 1)], nd (o 1 2) [(o 1 2)] [(o 1 2)], nd (o 2 1) [(o 2 1)] [(o 2 1)], nd (o 2 2) [(o 2 2)] [(o 2 2)], nd (o 3 1) [aO] [(o 3 1)], nd (o 3 2) [aO] [(o 3 2)], nd aO [aO] [aO]]
theorem l20g3_ok : vcallN X7 200 48 [l20g2, recV 2 0 2, bl true] = some l20g3 := by
  rw [← vcallF_eq]
  kernel_rfl
def l20g4 : V := lvl [nd (o 1 1) [(o 1 1)] [(o 1 1)], nd (o 1 2) [(o 1 2)] [(o 1 2)], nd (o 2 1) [(o 2 1)] [(o 2 1)], nd (o 2 2) [(o 2 2)] [(o 2 2)], nd (o 3 1) [(o 3 1)] [(o 3 1)], nd (o 3 2) [(o 3 2)] [(o 3 2)], nd (o 4 1) [aO] [(o 4 1)], nd (o 4 2) [aO] [(o 4 2)], nd aO [aO] [aO]]
theorem l20g4_ok : vcallN X7 200 48 [l20g3, recV 2 0 3, bl true] = some l20g4 := by
  rw [← vcallF_eq]
  kernel_rfl
def l20g5 : V := lvl [nd (o 1 1) [(o 1 1)] [(o 1 1)], nd (o 1 2) [(o 1 2)] [(o 1 2)], nd (o 2 1) [(o 2 1)] [(o 2 1)], nd (o 2 2) [(o 2 2)] [(o 2 2)], nd (o 3 1) [(o 3 1)] [(o 3 1)], nd (o 3 2) [(o 3 2)] [(o 3 2)], nd (o 4 1) [(o 4 1)] [(o 4 1)], nd (o 4 2) [(o 4 2)] [(o 4 2)], nd (o 5 1) [aO] [(o 5 1)], nd (o 5 2) [aO] [(o 5 2)], nd aO [aO] [aO]]
theorem l20g5_ok : vcallN X7 200 48 [l20g4, recV 2 0 4, bl true] = some l20g5 := by
  rw [← vcallF_eq]
  kernel_rfl
def tab20 : Tab := [(48, [l20g0, recV 2 0 0, bl true], l20g1), (48, [l20g1, recV 2 0 1, bl true], l20g2), (48, [l20g2, recV 2 0 2, bl true], l20g3), (48, [l20g3, recV 2 0 3, bl true], l20g4), (48, [l20g4, recV 2 0 4, bl true], l20g5)]
theorem tab20_ok : ∀ x ∈ tab20, (x.1 = 48 ∨ x.1 = 49) ∧ vcallN X7 200 x.1 x.2.1 = some x.2.2 := by
  intro x hx
  simp only [tab20, List.mem_cons, List.not_mem_nil, or_false] at hx
  rcases hx with rfl | rfl | rfl | rfl | rfl
  · exact ⟨Or.inl rfl, l20g1_ok⟩
  · exact ⟨Or.inl rfl, l20g2_ok⟩
  · exact ⟨Or.inl rfl, l20g3_ok⟩
  · exact ⟨Or.inl rfl, l20g4_ok⟩
  · exact ⟨Or.inl rfl, l20g5_ok⟩

def l21l0 : V := lvl [ndR aO [aO]]
def l21g1 : V := lvl [nd (o 1 1) [aO] [(o 1 1)], nd (o 1 2) [aO] [(o 1 2)], nd aO [aO] [aO]]
theorem l21g1_ok : vcallN X7 200 48 [l21l0, recV 2 1 0, bl true] = some l21g1 := by
  rw [← vcallF_eq]
  kernel_rfl
def l21l1 : V := lvl [nd (o 1 1) [aO] [(o 1 1)], nd (o 1 2) [aO] [(o 1 2)], nd (o 1 3) [aO] [(o 1 4)], nd aO [aO] [aO]]
theorem l21l1_ok : vcallN X7 200 49 [l21g1, recV 2 1 0, bl true] = some l21l1 := by
  rw [← vcallF_eq]
  kernel_rfl
def l21g2 : V := lvl [nd (o 1 1) [(o 1 1)] [(o 1 1)], nd (o 1 2) [(o 1 2)] [(o 1 2)], nd (o 1 4) [(o 1 3)] [(o 1 4)], nd (o 2 1) [aO] [(o 2 1)], nd (o 2 2) [aO] [(o 2 2)], nd aO [aO] [aO]]
theorem l21g2_ok : vcallN X7 200 48 [l21l1, recV 2 1 1, bl true] = some l21g2 := by
  rw [← vcallF_eq]
  kernel_rfl
def l21l2 : V := lvl [nd (o 1 1) [(o 1 1)] [(o 1 1)], nd (o 1 2) [(o 1 2)] [(o 1 2)], nd (o 1 4) [(o 1 3)] [(o 1 4)], nd (o 2 1) [aO] [(o 2 1)], nd (o 2 2) [aO] [(o 2 2)], nd (o 2 3) [aO] [(o 2 4)], nd aO [aO] [aO]]
theorem l21l2_ok : vcallN X7 200 49 [l21g2, recV 2 1 1, bl true] = some l21l2 := by
  rw [← vcallF_eq]
  kernel_rfl
def l21g3 : V := lvl [nd (o 1 1) [(o 1 1)] [(o 1 1)], nd (o 1 2) [(o 1 2)] [(o 1 2)], nd (o 1 4) [(o 1 4)] [(o 1 4)], nd (o 2 1) [(o 2 1)] [(o 2 1)], nd (o 2 2) [(o 2 2)] [(o 2 2)], nd (o 2 4) [(o 2 3)] [(o 2 4)], nd (o 3 1) [aO] [(o 3 1)], nd (o 3 2) [aO] [(o 3 2)], nd aO [aO] [aO]]
theorem l21g3_ok : vcallN X7 200 48 [l21l2, recV 2 1 2, bl true] = some l21g3 := by
  rw [← vcallF_eq]
  kernel_rfl
def l21l3 : V := lvl [nd (o 1 1) [(o 1 1)] [(o 1 1)], nd (o 1 2) [(o 1 2)] [(o 1 2)], nd (o 1 4) [(o 1 4)] [(o 1 4)], nd (o 2 1) [(o 2 1)] [(o 2 1)], nd (o 2 2) [(o 2 2)] [(o 2 2)], nd (o 2 4) [(o 2 3)] [(o 2 4)], nd (o 3 1) [aO] [(o 3 1)], nd (o 3 2) [aO] [(o 3 2)], nd (o 3 3) [aO] [(o 3 4)], nd aO [aO] [aO]]
theorem l21l3_ok : vcallN X7 200 49 [l21g3, recV 2 1 2, bl true] = some l21l3 := by
  rw [← vcallF_eq]
  kernel_rfl
def l21g4 : V := lvl [nd (o 1 1) [(o 1 1)] [(o 1 1)], nd (o 1 2) [(o 1 2)] [(o 1 2)], nd (o 1 4) [(o 1 4)] [(o 1 4)], nd (o 2 1) [(o 2 1)] [(o 2 1)], nd (o 2 2) [(o 2 2)] [(o 2 2)], nd (o 2 4) [(o 2 4)] [(o 2 4)], nd (o 3 1) [(o 3 1)] [(o 3 1)], nd (o 3 2) [(o 3 2)] [(o 3 2)], nd (o 3 4) [(o 3 3)] [(o 3 4)], nd (o 4 1) [aO] [(o 4 1)], nd (o 4 2) [aO] [(o 4 2)], nd aO [aO] [aO]]
theorem l21g4_ok : vcallN X7 200 48 [l21l3, recV 2 1 3, bl true] = some l21g4 := by
  rw [← vcallF_eq]
  kernel_rfl
def l21l4 : V := lvl [nd (o 1 1) [(o 1 1)] [(o 1 1)], nd (o 1 2) [(o 1 2)] [(o 1 2)], nd (o 1 4) [(o 1 4)] [(o 1 4)], nd (o 2 1) [(o 2 1)] [(o 2 1)], nd (o 2 2) [(o 2 2)] [(o 2 2)], nd (o 2 4) [(o 2 4)] [(o 2 4)], nd (o 3 1) [(o 3 1)] [(o 3 1)], nd (o 3 2) [(o 3 2)] [(o 3 2)], nd (o 3 4) [(o 3 3)] [(o 3 4)], nd (o 4 1) [aO] [(o 4 1)], nd (o 4 2) [aO] [(o 4 2)], nd (o 4 3) [aO] [(o 4 4)], nd aO [aO] [aO]]
theorem l21l4_ok : vcallN X7 200 49 [l21g4, recV 2 1 3, bl true] = some l21l4 := by
  rw [← vcallF_eq]
  kernel_rfl
def l21g5 : V := lvl [nd (o 1 1) [(o 1 1)] [(o 1 1)], nd (o 1 2) [(o 1 2)] [(o 1 2)], nd (o 1 4) [(o 1 4)] [(o 1 4)], nd (o 2 1) [(o 2 1)] [(o 2 1)], nd (o 2 2) [(o 2 2)] [(o 2 2)], nd (o 2 4) [(o 2 4)] [(o 2 4)], nd (o 3 1) [(o 3 1)] [(o 3 1)], nd (o 3 2) [(o 3 2)] [(o 3 2)], nd (o 3 4) [(o 3 4)] [(o 3 4)], nd (o 4 1) [(o 4 1)] [(o 4 1)], nd (o 4 2) [(o 4 2)] [(o 4 2)], nd (o 4 4) [(o 4 3)] [(o 4 4)], nd (o 5 1) [aO] [(o 5 1)], nd (o 5 2) [aO] [(o 5 2)], nd aO [aO] [aO]]
theorem l21g5_ok : vcallN X7 200 48 [l21l4, recV 2 1 4, bl true] = some l21g5 := by
  rw [← vcallF_eq]
  kernel_rfl
def tab21 : Tab := [(48, [l21l0, recV 2 1 0, bl true], l21g1), (49, [l21g1, recV 2 1 0, bl true], l21l1), (48, [l21l1, recV 2 1 1, bl true], l21g2), (49, [l21g2, recV 2 1 1, bl true], l21l2), (48, [l21l2, recV 2 1 2, bl true], l21g3), (49, [l21g3, recV 2 1 2, bl true], l21l3), (48, [l21l3, recV 2 1 3, bl true], l21g4), (49, [l21g4, recV 2 1 3, bl true], l21l4), (48, [l21l4, recV 2 1 4, bl true], l21g5)]
theorem tab21_ok : ∀ x ∈ tab21, (x.1 = 48 ∨ x.1 = 49) ∧ vcallN X7 200 x.1 x.2.1 = some x.2.2 := by
  intro x hx
  simp only [tab21, List.mem_cons, List.not_mem_nil, or_false] at hx
  rcases hx with rfl | rfl | rfl | rfl | rfl | rfl | rfl | rfl | rfl
  · exact ⟨Or.inl rfl, l21g1_ok⟩
  · exact ⟨Or.inr rfl, l21l1_ok⟩
  · exact ⟨Or.inl rfl, l21g2_ok⟩
  · exact ⟨Or.inr rfl, l21l2_ok⟩
  · exact ⟨Or.inl rfl, l21g3_ok⟩
  · exact ⟨Or.inr rfl, l21l3_ok⟩
  · exact ⟨Or.inl rfl, l21g4_ok⟩
  · exact ⟨Or.inr rfl, l21l4_ok⟩
  · exact ⟨Or.inl rfl, l21g5_ok⟩

def l22l0 : V := lvl [ndR aO [aO]]
def l22g1 : V := lvl [nd (o 1 1) [aO] [(o 1 1)], nd (o 1 2) [aO] [(o 1 2)], nd aO [aO] [aO]]
theorem l22g1_ok : vcallN X7 200 48 [l22l0, recV 2 2 0, bl true] = some l22g1 := by
  rw [← vcallF_eq]
  kernel_rfl
def l22l1 : V := lvl [nd (o 1 1) [aO] [(o 1 1)], nd (o 1 2) [aO] [(o 1 2)], nd (o 1 3) [aO] [(o 1 5)], nd (o 1 4) [aO] [(o 1 6)], nd aO [aO] [aO]]
theorem l22l1_ok : vcallN X7 200 49 [l22g1, recV 2 2 0, bl true] = some l22l1 := by
  rw [← vcallF_eq]
  kernel_rfl
def l22g2 : V := lvl [nd (o 1 1) [(o 1 1)] [(o 1 1)], nd (o 1 2) [(o 1 2)] [(o 1 2)], nd (o 1 5) [(o 1 3)] [(o 1 5)], nd (o 1 6) [(o 1 4)] [(o 1 6)], nd (o 2 1) [aO] [(o 2 1)], nd (o 2 2) [aO] [(o 2 2)], nd aO [aO] [aO]]
theorem l22g2_ok : vcallN X7 200 48 [l22l1, recV 2 2 1, bl true] = some l22g2 := by
  rw [← vcallF_eq]
  kernel_rfl
def l22l2 : V := lvl [nd (o 1 1) [(o 1 1)] [(o 1 1)], nd (o 1 2) [(o 1 2)] [(o 1 2)], nd (o 1 5) [(o 1 3)] [(o 1 5)], nd (o 1 6) [(o 1 4)] [(o 1 6)], nd (o 2 1) [aO] [(o 2 1)], nd (o 2 2) [aO] [(o 2 2)], nd (o 2 3) [aO] [(o 2 5)], nd (o 2 4) [aO] [(o 2 6)], nd aO [aO] [aO]]
theorem l22l2_ok : vcallN X7 200 49 [l22g2, recV 2 2 1, bl true] = some l22l2 := by
  rw [← vcallF_eq]
  kernel_rfl
def l22g3 : V := lvl [nd (o 1 1) [(o 1 1)] [(o 1 1)], nd (o 1 2) [(o 1 2)] [(o 1 2)], nd (o 1 5) [(o 1 5)] [(o 1 5)], nd (o 1 6) [(o 1 6)] [(o 1 6)], nd (o 2 1) [(o 2 1)] [(o 2 1)], nd (o 2 2) [(o 2 2)] [(o 2 2)], nd (o 2 5) [(o 2 3)] [(o 2 5)], nd (o 2 6) [(o 2 4)] [(o 2 6)], nd (o 3 1) [aO] [(o 3 1)], nd (o 3 2) [aO] [(o 3 2)], nd aO [aO] [aO]]
theorem l22g3_ok : vcallN X7 200 48 [l22l2, recV 2 2 2, bl true] = some l22g3 := by
  rw [← vcallF_eq]
  kernel_rfl
def l22l3 : V := lvl [nd (o 1 1) [(o 1 1)] [(o 1 1)], nd (o 1 2) [(o 1 2)] [(o 1 2)], nd (o 1 5) [(o 1 5)] [(o 1 5)], nd (o 1 6) [(o 1 6)] [(o 1 6)], nd (o 2 1) [(o 2 1)] [(o 2 1)], nd (o 2 2) [(o 2 2)] [(o 2 2)], nd (o 2 5) [(o 2 3)] [(o 2 5)], nd (o 2 6) [(o 2 4)] [(o 2 6)], nd (o 3 1) [aO] [(o 3 1)], nd (o 3 2) [aO] [(o 3 2)], nd (o 3 3) [aO] [(o 3 5)], nd (o 3 4) [aO] [(o 3 6)], nd aO [aO] [aO]]
theorem l22l3_ok : vcallN X7 200 49 [l22g3, recV 2 2 2, bl true] = some l22l3 := by
  rw [← vcallF_eq]
  kernel_rfl
def l22g4 : V := lvl [nd (o 1 1) [(o 1 1)] [(o 1 1)], nd (o 1 2) [(o 1 2)] [(o 1 2)], nd (o 1 5) [(o 1 5)] [(o 1 5)], nd (o 1 6) [(o 1 6)] [(o 1 6)], nd (o 2 1) [(o 2 1)] [(o 2 1)], nd (o 2 2) [(o 2 2)] [(o 2 2)], nd (o 2 5) [(o 2 5)] [(o 2 5)], nd (o 2 6) [(o 2 6)] [(o 2 6)], nd (o 3 1) [(o 3 1)] [(o 3 1)], nd (o 3 2) [(o 3 2)] [(o 3 2)], nd (o 3 5) [(o 3 3)] [(o 3 5)], nd (o 3 6) [(o 3 4)] [(o 3 6)], nd (o 4 1) [aO] [(o 4 1)], nd (o 4 2) [aO] [(o 4 2)], nd aO [aO] [aO]]
theorem l22g4_ok : vcallN X7 200 48 [l22l3, recV 2 2 3, bl true] = some l22g4 := by
  rw [← vcallF_eq]
  kernel_rfl
def l22l4 : V := lvl [nd (o 1 1) [(o 1 1)] [(o 1 1)], nd (o 1 2) [(o 1 2)] [(o 1 2)], nd (o 1 5) [(o 1 5)] [(o 1 5)], nd (o 1 6) [(o 1 6)] [(o 1 6)], nd (o 2 1) [(o 2 1)] [(o 2 1)], nd (o 2 2) [(o 2 2)] [(o 2 2)], nd (o 2 5) [(o 2 5)] [(o 2 5)], nd (o 2 6) [(o 2 6)] [(o 2 6)], nd (o 3 1) [(o 3 1)] [(o 3 1)], nd (o 3 2) [(o 3 2)] [(o 3 2)], nd (o 3 5) [(o 3 3)] [(o 3 5)], nd (o 3 6) [(o 3 4)] [(o 3 6)], nd (o 4 1) [aO] [(o 4 1)], nd (o 4 2) [aO] [(o 4 2)], nd (o 4 3) [aO] [(o 4 5)], nd (o 4 4) [aO] [(o 4 6)], nd aO [aO] [aO]]
theorem l22l4_ok : vcallN X7 200 49 [l22g4, recV 2 2 3, bl true] = some l22l4 := by
  rw [← vcallF_eq]
  kernel_rfl
def l22g5 : V := lvl [nd (o 1 1) [(o 1 1)] [(o 1 1)], nd (o 1 2) [(o 1 2)] [(o 1 2)], nd (o 1 5) [(o 1 5)] [(o 1 5)], nd (o 1 6) [(o 1 6)] [(o 1 6)], nd (o 2 1) [(o 2 1)] [(o 2 1)], nd (o 2 2) [(o 2 2)] [(o 2 2)], nd (o 2 5) [(o 2 5)] [(o 2 5)], nd (o 2 6) [(o 2 6)] [(o 2 6)], nd (o 3 1) [(o 3 1)] [(o 3 1)], nd (o 3 2) [(o 3 2)] [(o 3 2)], nd (o 3 5) [(o 3 5)] [(o 3 5)], nd (o 3 6) [(o 3 6)] [(o 3 6)], nd (o 4 1) [(o 4 1)] [(o 4 1)], nd (o 4 2) [(o 4 2)] [(o 4 2)], nd (o 4 5) [(o 4 3)] [(o 4 5)], nd (o 4 6) [(o 4 4)] [(o 4 6)], nd (o 5 1) [aO] [(o 5 1)], nd (o 5 2) [aO] [(o 5 2)], nd aO [aO] [aO]]
theorem l22g5_ok : vcallN X7 200 48 [l22l4, recV 2 2 4, bl true] = some l22g5 := by
  rw [← vcallF_eq]
  kernel_rfl
def tab22 : Tab := [(48, [l22l0, recV 2 2 0, bl true], l22g1), (49, [l22g1, recV 2 2 0, bl true], l22l1), (48, [l22l1, recV 2 2 1, bl true], l22g2), (49, [l22g2, recV 2 2 1, bl true], l22l2), (48, [l22l2, recV 2 2 2, bl true], l22g3), (49, [l22g3, recV 2 2 2, bl true], l22l3), (48, [l22l3, recV 2 2 3, bl true], l22g4), (49, [l22g4, recV 2 2 3, bl true], l22l4), (48, [l22l4, recV 2 2 4, bl true], l22g5)]
theorem tab22_ok : ∀ x ∈ tab22, (x.1 = 48 ∨ x.1 = 49) ∧ vcallN X7 200 x.1 x.2.1 = some x.2.2 := by
  intro x hx
  simp only [tab22, List.mem_cons, List.not_mem_nil, or_false] at hx
  rcases hx with rfl | rfl | rfl | rfl | rfl | rfl | rfl | rfl | rfl
  · exact ⟨Or.inl rfl, l22g1_ok⟩
  · exact ⟨Or.inr rfl, l22l1_ok⟩
  · exact ⟨Or.inl rfl, l22g2_ok⟩
  · exact ⟨Or.inr rfl, l22l2_ok⟩
  · exact ⟨Or.inl rfl, l22g3_ok⟩
  · exact ⟨Or.inr rfl, l22l3_ok⟩
  · exact ⟨Or.inl rfl, l22g4_ok⟩
  · exact ⟨Or.inr rfl, l22l4_ok⟩
  · exact ⟨Or.inl rfl, l22g5_ok⟩

def l23l0 : V := lvl [ndR aO [aO]]
def l23g1 : V := lvl [nd (o 1 1) [aO] [(o 1 1)], nd (o 1 2) [aO] [(o 1 2)], nd aO [aO] [aO]]
theorem l23g1_ok : vcallN X7 200 48 [l23l0, recV 2 3 0, bl true] = some l23g1 := by
  rw [← vcallF_eq]
  kernel_rfl
def l23l1 : V := lvl [nd (o 1 1) [aO] [(o 1 1)], nd (o 1 2) [aO] [(o 1 2)], nd (o 1 3) [aO] [(o 1 6)], nd (o 1 4) [aO] [(o 1 7)], nd (o 1 5) [aO] [(o 1 8)], nd aO [aO] [aO]]
theorem l23l1_ok : vcallN X7 200 49 [l23g1, recV 2 3 0, bl true] = some l23l1 := by
  rw [← vcallF_eq]
  kernel_rfl
def l23g2 : V := lvl [nd (o 1 1) [(o 1 1)] [(o 1 1)], nd (o 1 2) [(o 1 2)] [(o 1 2)], nd (o 1 6) [(o 1 3)] [(o 1 6)], nd (o 1 7) [(o 1 4)] [(o 1 7)], nd (o 1 8) [(o 1 5)] [(o 1 8)], nd (o 2 1) [aO] [(o 2 1)], nd (o 2 2) [aO] [(o 2 2)], nd aO [aO] [aO]]
theorem l23g2_ok : vcallN X7 200 48 [l23l1, recV 2 3 1, bl true] = some l23g2 := by
  rw [← vcallF_eq]
  kernel_rfl
def l23l2 : V := lvl [nd (o 1 1) [(o 1 1)] [(o 1 1)], nd (o 1 2) [(o 1 2)] [(o 1 2)], nd (o 1 6) [(o 1 3)] [(o 1 6)], nd (o 1 7) [(o 1 4)] [(o 1 7)], nd (o 1 8) [(o 1 5)] [(o 1 8)], nd (o 2 1) [aO] [(o 2 1)], nd (o 2 2) [aO] [(o 2 2)], nd (o 2 3) [aO] [(o 2 6)], nd (o 2 4) [aO] [(o 2 7)], nd (o 2 5) [aO] [(o 2 8)], nd aO [aO] [aO]]
theorem l23l2_ok : vcallN X7 200 49 [l23g2, recV 2 3 1, bl true] = some l23l2 := by
  rw [← vcallF_eq]
  kernel_rfl
def l23g3 : V := lvl [nd (o 1 1) [(o 1 1)] [(o 1 1)], nd (o 1 2) [(o 1 2)] [(o 1 2)], nd (o 1 6) [(o 1 6)] [(o 1 6)], nd (o 1 7) [(o 1 7)] [(o 1 7)], nd (o 1 8) [(o 1 8)] [(o 1 8)], nd (o 2 1) [(o 2 1)] [(o 2 1)], nd (o 2 2) [(o 2 2)] [(o 2 2)], nd (o 2 6) [(o 2 3)] [(o 2 6)], nd (o 2 7) [(o 2 4)] [(o 2 7)], nd (o 2 8) [(o 2 5)] [(o 2 8)], nd (o 3 1) [aO] [(o 3 1)], nd (o 3 2) [aO] [(o 3 2)], nd aO [aO] [aO]]
theorem l23g3_ok : vcallN X7 200 48 [l23l2, recV 2 3 2, bl true] = some l23g3 := by
  rw [← vcallF_eq]
  kernel_rfl
def l23l3 : V := lvl [nd (o 1 1) [(o 1 1)] [(o 1 1)], nd (o 1 2) [(o 1 2)] [(o 1 2)], nd (o 1 6) [(o 1 6)] [(o 1 6)], nd (o 1 7) [(o 1 7)] [(o 1 7)], nd (o 1 8) [(o 1 8)] [(o 1 8)], nd (o 2 1) [(o 2 1)] [(o 2 1)], nd (o 2 2) [(o 2 2)] [(o 2 2)], nd (o 2 6) [(o 2 3)] [(o 2 6)], nd (o 2 7) [(o 2 4)] [(o 2 7)], nd (o 2 8) [(o 2 5)] [(o 2 8)], nd (o 3 1) [aO] [(o 3 1)], nd (o 3 2) [aO] [(o 3 2)], nd (o 3 3) [aO] [(o 3 6)], nd (o 3 4) [aO] [(o 3 7)], nd (o 3 5) [aO] [(o 3 8)], nd aO [aO] [aO]]
theorem l23l3_ok : vcallN X7 200 49 [l23g3, recV 2 3 2, bl true] = some l23l3 := by
  rw [← vcallF_eq]
  kernel_rfl
def l23g4 : V := lvl [nd (o 1 1) [(o 1 1)] [(o 1 1)], nd (o 1 2) [(o 1 2)] [(o 1 2)], nd (o 1 6) [(o 1 6)] [(o 1 6)], nd (o 1 7) [(o 1 7)] [(o 1 7)], nd (o 1 8) [(o 1 8)] [(o 1 8)], nd (o 2 1) [(o 2 1)] [(o 2 1)], nd (o 2 2) [(o 2 2)] [(o 2 2)], nd (o 2 6) [(o 2 6)] [(o 2 6)], nd (o 2 7) [(o 2 7)] [(o 2 7)], nd (o 2 8) [(o 2 8)] [(o 2 8)], nd (o 3 1) [(o 3 1)] [(o 3 1)], nd (o 3 2) [(o 3 2)] [(o 3 2)], nd (o 3 6) [(o 3 3)] [(o 3 6)], nd (o 3 7) [(o 3 4)] [(o 3 7)], nd (o 3 8) [(o 3 5)] [(o 3 8)], nd (o 4 1) [aO] [(o 4 1)], nd (o 4 2) [aO] [(o 4 2)], nd aO [aO] [aO]]
theorem l23g4_ok : vcallN X7 200 48 [l23l3, recV 2 3 3, bl true] = some l23g4 := by
  rw [← vcallF_eq]
  kernel_rfl
def l23l4 : V := lvl [nd (o 1 1) [(o 1 1)] [(o 1 1)], nd (o 1 2) [(o 1 2)] [(o 1 2)], nd (o 1 6) [(o 1 6)] [(o 1 6)], nd (o 1 7) [(o 1 7)] [(o 1 7)], nd (o 1 8) [(o 1 8)] [(o 1 8)], nd (o 2 1) [(o 2 1)] [(o 2 1)], nd (o 2 2) [(o 2 2)] [(o 2 2)], nd (o 2 6) [(o 2 6)] [(o 2 6)], nd (o 2 7) [(o 2 7)] [(o 2 7)], nd (o 2 8) [(o 2 8)] [(o 2 8)], nd (o 3 1) [(o 3 1)] [(o 3 1)], nd (o 3 2) [(o 3 2)] [(o 3 2)], nd (o 3 6) [(o 3 3)] [(o 3 6)], nd (o 3 7) [(o 3 4)] [(o 3 7)], nd (o 3 8) [(o 3 5)] [(o 3 8)], nd (o 4 1) [aO] [(o 4 1)], nd (o 4 2) [aO] [(o 4 2)], nd (o 4 3) [aO] [(o 4 6)], nd (o 4 4) [aO] [(o 4 7)], nd (o 4 5) [aO] [(o 4 8)], nd aO [aO] [aO]]
theorem l23l4_ok : vcallN X7 200 49 [l23g4, recV 2 3 3, bl true] = some l23l4 := by
  rw [← vcallF_eq]
  kernel_rfl
def l23g5 : V := lvl [nd (o 1 1) [(o 1 1)] [(o 1 1)], nd (o 1 2) [(o 1 2)] [(o 1 2)], nd (o 1 6) [(o 1 6)] [(o 1 6)], nd (o 1 7) [(o 1 7)] [(o 1 7)], nd (o 1 8) [(o 1 8)] [(o 1 8)], nd (o 2 1) [(o 2 1)] [(o 2 1)], nd (o 2 2) [(o 2 2)] [(o 2 2)], nd (o 2 6) [(o 2 6)] [(o 2 6)], nd (o 2 7) [(o 2 7)] [(o 2 7)], nd (o 2 8) [(o 2 8)] [(o 2 8)], nd (o 3 1) [(o 3 1)] [(o 3 1)], nd (o 3 2) [(o 3 2)] [(o 3 2)], nd (o 3 6) [(o 3 6)] [(o 3 6)], nd (o 3 7) [(o 3 7)] [(o 3 7)], nd (o 3 8) [(o 3 8)] [(o 3 8)], nd (o 4 1) [(o 4 1)] [(o 4 1)], nd (o 4 2) [(o 4 2)] [(o 4 2)], nd (o 4 6) [(o 4 3)] [(o 4 6)], nd (o 4 7) [(o 4 4)] [(o 4 7)], nd (o 4 8) [(o 4 5)] [(o 4 8)], nd (o 5 1) [aO] [(o 5 1)], nd (o 5 2) [aO] [(o 5 2)], nd aO [aO] [aO]]
theorem l23g5_ok : vcallN X7 200 48 [l23l4, recV 2 3 4, bl true] = some l23g5 := by
  rw [← vcallF_eq]
  kernel_rfl
def tab23 : Tab := [(48, [l23l0, recV 2 3 0, bl true], l23g1), (49, [l23g1, recV 2 3 0, bl true], l23l1), (48, [l23l1, recV 2 3 1, bl true], l23g2), (49, [l23g2, recV 2 3 1, bl true], l23l2), (48, [l23l2, recV 2 3 2, bl true], l23g3), (49, [l23g3, recV 2 3 2, bl true], l23l3), (48, [l23l3, recV 2 3 3, bl true], l23g4), (49, [l23g4, recV 2 3 3, bl true], l23l4), (48, [l23l4, recV 2 3 4, bl true], l23g5)]
theorem tab23_ok : ∀ x ∈ tab23, (x.1 = 48 ∨ x.1 = 49) ∧ vcallN X7 200 x.1 x.2.1 = some x.2.2 := by
  intro x hx
  simp only [tab23, List.mem_cons, List.not_mem_nil, or_false] at hx
  rcases hx with rfl | rfl | rfl | rfl | rfl | rfl | rfl | rfl | rfl
  · exact ⟨Or.inl rfl, l23g1_ok⟩
  · exact ⟨Or.inr rfl, l23l1_ok⟩
  · exact ⟨Or.inl rfl, l23g2_ok⟩
  · exact ⟨Or.inr rfl, l23l2_ok⟩
  · exact ⟨Or.inl rfl, l23g3_ok⟩
  · exact ⟨Or.inr rfl, l23l3_ok⟩
  · exact ⟨Or.inl rfl, l23g4_ok⟩
  · exact ⟨Or.inr rfl, l23l4_ok⟩
  · exact ⟨Or.inl rfl, l23g5_ok⟩
end Mini
end Go.Proofs.YtcilepbdddgpoaaDoor
namespace Go.Proofs.YtcilepbdddgpoaaDoor
namespace Mini
open Go
theorem run5_120 (a b c : V) : (run5 tab20 a b c 1 2 0).map (·.1) = some (.c (.d (.bool true))) := by kernel_rfl
theorem run5_220 (a b c : V) : (run5 tab20 a b c 2 2 0).map (·.1) = some (.c (.d (.bool true))) := by kernel_rfl
theorem run5_320 (a b c : V) : (run5 tab20 a b c 3 2 0).map (·.1) = some (.c (.d (.bool true))) := by kernel_rfl
theorem run5_420 (a b c : V) : (run5 tab20 a b c 4 2 0).map (·.1) = some (.c (.d (.bool true))) := by kernel_rfl
theorem run5_520 (a b c : V) : (run5 tab20 a b c 5 2 0).map (·.1) = some (.c (.d (.bool true))) := by kernel_rfl
theorem run5_121 (a b c : V) : (run5 tab21 a b c 1 2 1).map (·.1) = some (.c (.d (.bool true))) := by kernel_rfl
theorem run5_221 (a b c : V) : (run5 tab21 a b c 2 2 1).map (·.1) = some (.c (.d (.bool true))) := by kernel_rfl
theorem run5_321 (a b c : V) : (run5 tab21 a b c 3 2 1).map (·.1) = some (.c (.d (.bool true))) := by kernel_rfl
theorem run5_421 (a b c : V) : (run5 tab21 a b c 4 2 1).map (·.1) = some (.c (.d (.bool true))) := by kernel_rfl
theorem run5_521 (a b c : V) : (run5 tab21 a b c 5 2 1).map (·.1) = some (.c (.d (.bool true))) := by kernel_rfl
theorem run5_122 (a b c : V) : (run5 tab22 a b c 1 2 2).map (·.1) = some (.c (.d (.bool true))) := by kernel_rfl
theorem run5_222 (a b c : V) : (run5 tab22 a b c 2 2 2).map (·.1) = some (.c (.d (.bool true))) := by kernel_rfl
theorem run5_322 (a b c : V) : (run5 tab22 a b c 3 2 2).map (·.1) = some (.c (.d (.bool true))) := by kernel_rfl
theorem run5_422 (a b c : V) : (run5 tab22 a b c 4 2 2).map (·.1) = some (.c (.d (.bool true))) := by kernel_rfl
theorem run5_522 (a b c : V) : (run5 tab22 a b c 5 2 2).map (·.1) = some (.c (.d (.bool true))) := by kernel_rfl
theorem run5_123 (a b c : V) : (run5 tab23 a b c 1 2 3).map (·.1) = some (.c (.d (.bool true))) := by kernel_rfl
theorem run5_223 (a b c : V) : (run5 tab23 a b c 2 2 3).map (·.1) = some (.c (.d (.bool true))) := by kernel_rfl
theorem run5_323 (a b c : V) : (run5 tab23 a b c 3 2 3).map (·.1) = some (.c (.d (.bool true))) := by kernel_rfl
theorem run5_423 (a b c : V) : (run5 tab23 a b c 4 2 3).map (·.1) = some (.c (.d (.bool true))) := by kernel_rfl
theorem run5_523 (a b c : V) : (run5 tab23 a b c 5 2 3).map (·.1) = some (.c (.d (.bool true))) := by kernel_rfl
end Mini
end Go.Proofs.YtcilepbdddgpoaaDoor
