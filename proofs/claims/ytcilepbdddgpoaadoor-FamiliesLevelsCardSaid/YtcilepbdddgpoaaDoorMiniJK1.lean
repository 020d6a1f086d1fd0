/-
  The levels of long paths with 1 policies, and the law's runs, by the kernel.
-/
import Derived.Test.YtcilepbdddgpoaaDoorMiniJH
namespace Go.Proofs.YtcilepbdddgpoaaDoor
namespace Mini
open Go

def l10g0 : V := lvl [ndR aO [aO]]
def l10g1 : V := lvl [nd (o 1 1) [aO] [(o 1 1)], nd aO [aO] [aO]]
theorem l10g1_ok : vcallN X7 200 48 [l10g0, recV 1 0 0, bl true] = some l10g1 := by
  rw [← vcallF_eq]
  kernel_rfl
def l10g2 : V := lvl [nd (o 1 1) [(o 1 1)] [(o 1 1)], nd (o 2 1) [aO] [(o 2 1)], nd aO [aO] [aO]]
theorem l10g2_ok : vcallN X7 200 48 [l10g1, recV 1 0 1, bl true] = some l10g2 := by
  rw [← vcallF_eq]
  kernel_rfl
def l10g3 : V := lvl [nd (o 1 1) [(o 1 1)] [(o 1 1)], nd (o 2 1) [(o 2 1)] [(o 2 1)], nd (o 3 1) [aO] [(o 3 1)], nd aO [aO] [aO]]
theorem l10g3_ok : vcallN X7 200 48 [l10g2, recV 1 0 2, bl true] = some l10g3 := by
  rw [← vcallF_eq]
  kernel_rfl
def l10g4 : V := lvl [nd (o 1 1) [(o 1 1)] [(o 1 1)], nd (o 2 1) [(o 2 1)] [(o 2 1)], nd (o 3 1) [(o 3 1)] [(o 3 1)], nd (o 4 1) [aO] [(o 4 1)], nd aO [aO] [aO]]
theorem l10g4_ok : vcallN X7 200 48 [l10g3, recV 1 0 3, bl true] = some l10g4 := by
  rw [← vcallF_eq]
  kernel_rfl
def l10g5 : V := lvl [nd (o 1 1) [(o 1 1)] [(o 1 1)], nd (o 2 1) [(o 2 1)] [(o 2 1)], nd (o 3 1) [(o 3 1)] [(o 3 1)], nd (o 4 1) [(o 4 1)] [(o 4 1)], nd (o 5 1) [aO] [(o 5 1)], nd aO [aO] [aO]]
theorem l10g5_ok : vcallN X7 200 48 [l10g4, recV 1 0 4, bl true] = some l10g5 := by
  rw [← vcallF_eq]
  kernel_rfl
def tab10 : Tab := [(48, [l10g0, recV 1 0 0, bl true], l10g1), (48, [l10g1, recV 1 0 1, bl true], l10g2), (48, [l10g2, recV 1 0 2, bl true], l10g3), (48, [l10g3, recV 1 0 3, bl true], l10g4), (48, [l10g4, recV 1 0 4, bl true], l10g5)]
theorem tab10_ok : ∀ x ∈ tab10, (x.1 = 48 ∨ x.1 = 49) ∧ vcallN X7 200 x.1 x.2.1 = some x.2.2 := by
  intro x hx
  simp only [tab10, List.mem_cons, List.not_mem_nil, or_false] at hx
  rcases hx with rfl | rfl | rfl | rfl | rfl
  · exact ⟨Or.inl rfl, l10g1_ok⟩
  · exact ⟨Or.inl rfl, l10g2_ok⟩
  · exact ⟨Or.inl rfl, l10g3_ok⟩
  · exact ⟨Or.inl rfl, l10g4_ok⟩
  · exact ⟨Or.inl rfl, l10g5_ok⟩

def l11l0 : V := lvl [ndR aO [aO]]
def l11g1 : V := lvl [nd (o 1 1) [aO] [(o 1 1)], nd aO [aO] [aO]]
theorem l11g1_ok : vcallN X7 200 48 [l11l0, recV 1 1 0, bl true] = some l11g1 := by
  rw [← vcallF_eq]
  kernel_rfl
def l11l1 : V := lvl [nd (o 1 1) [aO] [(o 1 1)], nd (o 1 2) [aO] [(o 1 3)], nd aO [aO] [aO]]
theorem l11l1_ok : vcallN X7 200 49 [l11g1, recV 1 1 0, bl true] = some l11l1 := by
  rw [← vcallF_eq]
  kernel_rfl
def l11g2 : V := lvl [nd (o 1 1) [(o 1 1)] [(o 1 1)], nd (o 1 3) [(o 1 2)] [(o 1 3)], nd (o 2 1) [aO] [(o 2 1)], nd aO [aO] [aO]]
theorem l11g2_ok : vcallN X7 200 48 [l11l1, recV 1 1 1, bl true] = some l11g2 := by
  rw [← vcallF_eq]
  kernel_rfl
def l11l2 : V := lvl [nd (o 1 1) [(o 1 1)] [(o 1 1)], nd (o 1 3) [(o 1 2)] [(o 1 3)], nd (o 2 1) [aO] [(o 2 1)], nd (o 2 2) [aO] [(o 2 3)], nd aO [aO] [aO]]
theorem l11l2_ok : vcallN X7 200 49 [l11g2, recV 1 1 1, bl true] = some l11l2 := by
  rw [← vcallF_eq]
  kernel_rfl
def l11g3 : V := lvl [nd (o 1 1) [(o 1 1)] [(o 1 1)], nd (o 1 3) [(o 1 3)] [(o 1 3)], nd (o 2 1) [(o 2 1)] [(o 2 1)], nd (o 2 3) [(o 2 2)] [(o 2 3)], nd (o 3 1) [aO] [(o 3 1)], nd aO [aO] [aO]]
theorem l11g3_ok : vcallN X7 200 48 [l11l2, recV 1 1 2, bl true] = some l11g3 := by
  rw [← vcallF_eq]
  kernel_rfl
def l11l3 : V := lvl [nd (o 1 1) [(o 1 1)] [(o 1 1)], nd (o 1 3) [(o 1 3)] [(o 1 3)], nd (o 2 1) [(o 2 1)] [(o 2 1)], nd (o 2 3) [(o 2 2)] [(o 2 3)], nd (o 3 1) [aO] [(o 3 1)], nd (o 3 2) [aO] [(o 3 3)], nd aO [aO] [aO]]
theorem l11l3_ok : vcallN X7 200 49 [l11g3, recV 1 1 2, bl true] = some l11l3 := by
  rw [← vcallF_eq]
  kernel_rfl
def l11g4 : V := lvl [nd (o 1 1) [(o 1 1)] [(o 1 1)], nd (o 1 3) [(o 1 3)] [(o 1 3)], nd (o 2 1) [(o 2 1)] [(o 2 1)], nd (o 2 3) [(o 2 3)] [(o 2 3)], nd (o 3 1) [(o 3 1)] [(o 3 1)], nd (o 3 3) [(o 3 2)] [(o 3 3)], nd (o 4 1) [aO] [(o 4 1)], nd aO [aO] [aO]]
theorem l11g4_ok : vcallN X7 200 48 [l11l3, recV 1 1 3, bl true] = some l11g4 := by
  rw [← vcallF_eq]
  kernel_rfl
def l11l4 : V := lvl [nd (o 1 1) [(o 1 1)] [(o 1 1)], nd (o 1 3) [(o 1 3)] [(o 1 3)], nd (o 2 1) [(o 2 1)] [(o 2 1)], nd (o 2 3) [(o 2 3)] [(o 2 3)], nd (o 3 1) [(o 3 1)] [(o 3 1)], nd (o 3 3) [(o 3 2)] [(o 3 3)], nd (o 4 1) [aO] [(o 4 1)], nd (o 4 2) [aO] [(o 4 3)], nd aO [aO] [aO]]
theorem l11l4_ok : vcallN X7 200 49 [l11g4, recV 1 1 3, bl true] = some l11l4 := by
  rw [← vcallF_eq]
  kernel_rfl
def l11g5 : V := lvl [nd (o 1 1) [(o 1 1)] [(o 1 1)], nd (o 1 3) [(o 1 3)] [(o 1 3)], nd (o 2 1) [(o 2 1)] [(o 2 1)], nd (o 2 3) [(o 2 3)] [(o 2 3)], nd (o 3 1) [(o 3 1)] [(o 3 1)], nd (o 3 3) [(o 3 3)] [(o 3 3)], nd (o 4 1) [(o 4 1)] [(o 4 1)], nd (o 4 3) [(o 4 2)] [(o 4 3)], nd (o 5 1) [aO] [(o 5 1)], nd aO [aO] [aO]]
theorem l11g5_ok : vcallN X7 200 48 [l11l4, recV 1 1 4, bl true] = some l11g5 := by
  rw [← vcallF_eq]
  kernel_rfl
def tab11 : Tab := [(48, [l11l0, recV 1 1 0, bl true], l11g1), (49, [l11g1, recV 1 1 0, bl true], l11l1), (48, [l11l1, recV 1 1 1, bl true], l11g2), (49, [l11g2, recV 1 1 1, bl true], l11l2), (48, [l11l2, recV 1 1 2, bl true], l11g3), (49, [l11g3, recV 1 1 2, bl true], l11l3), (48, [l11l3, recV 1 1 3, bl true], l11g4), (49, [l11g4, recV 1 1 3, bl true], l11l4), (48, [l11l4, recV 1 1 4, bl true], l11g5)]
theorem tab11_ok : ∀ x ∈ tab11, (x.1 = 48 ∨ x.1 = 49) ∧ vcallN X7 200 x.1 x.2.1 = some x.2.2 := by
  intro x hx
  simp only [tab11, List.mem_cons, List.not_mem_nil, or_false] at hx
  rcases hx with rfl | rfl | rfl | rfl | rfl | rfl | rfl | rfl | rfl
  · exact ⟨Or.inl rfl, l11g1_ok⟩
  · exact ⟨Or.inr rfl, l11l1_ok⟩
  · exact ⟨Or.inl rfl, l11g2_ok⟩
  · exact ⟨Or.inr rfl, l11l2_ok⟩
  · exact ⟨Or.inl rfl, l11g3_ok⟩
  · exact ⟨Or.inr rfl, l11l3_ok⟩
  · exact ⟨Or.inl rfl, l11g4_ok⟩
  · exact ⟨Or.inr rfl, l11l4_ok⟩
  · exact ⟨Or.inl rfl, l11g5_ok⟩

def l12l0 : V := lvl [ndR aO [aO]]
def l12g1 : V := lvl [nd (o 1 1) [aO] [(o 1 1)], nd aO [aO] [aO]]
theorem l12g1_ok : vcallN X7 200 48 [l12l0, recV 1 2 0, bl true] = some l12g1 := by
  rw [← vcallF_eq]
  kernel_rfl
def l12l1 : V := lvl [nd (o 1 1) [aO] [(o 1 1)], nd (o 1 2) [aO] [(o 1 4)], nd (o 1 3) [aO] [(o 1 5)], nd aO [aO] [aO]]
theorem l12l1_ok : vcallN X7 200 49 [l12g1, recV 1 2 0, bl true] = some l12l1 := by
  rw [← vcallF_eq]
  kernel_rfl
def l12g2 : V := lvl [nd (o 1 1) [(o 1 1)] [(o 1 1)], nd (o 1 4) [(o 1 2)] [(o 1 4)], nd (o 1 5) [(o 1 3)] [(o 1 5)], nd (o 2 1) [aO] [(o 2 1)], nd aO [aO] [aO]]
theorem l12g2_ok : vcallN X7 200 48 [l12l1, recV 1 2 1, bl true] = some l12g2 := by
  rw [← vcallF_eq]
  kernel_rfl
def l12l2 : V := lvl [nd (o 1 1) [(o 1 1)] [(o 1 1)], nd (o 1 4) [(o 1 2)] [(o 1 4)], nd (o 1 5) [(o 1 3)] [(o 1 5)], nd (o 2 1) [aO] [(o 2 1)], nd (o 2 2) [aO] [(o 2 4)], nd (o 2 3) [aO] [(o 2 5)], nd aO [aO] [aO]]
theorem l12l2_ok : vcallN X7 200 49 [l12g2, recV 1 2 1, bl true] = some l12l2 := by
  rw [← vcallF_eq]
  kernel_rfl
def l12g3 : V := lvl [nd (o 1 1) [(o 1 1)] [(o 1 1)], nd (o 1 4) [(o 1 4)] [(o 1 4)], nd (o 1 5) [(o 1 5)] [(o 1 5)], nd (o 2 1) [(o 2 1)] [(o 2 1)], nd (o 2 4) [(o 2 2)] [(o 2 4)], nd (o 2 5) [(o 2 3)] [(o 2 5)], nd (o 3 1) [aO] [(o 3 1)], nd aO [aO] [aO]]
theorem l12g3_ok : vcallN X7 200 48 [l12l2, recV 1 2 2, bl true] = some l12g3 := by
  rw [← vcallF_eq]
  kernel_rfl
def l12l3 : V := lvl [nd (o 1 1) [(o 1 1)] [(o 1 1)], nd (o 1 4) [(o 1 4)] [(o 1 4)], nd (o 1 5) [(o 1 5)] [(o 1 5)], nd (o 2 1) [(o 2 1)] [(o 2 1)], nd (o 2 4) [(o 2 2)] [(o 2 4)], nd (o 2 5) [(o 2 3)] [(o 2 5)], nd (o 3 1) [aO] [(o 3 1)], nd (o 3 2) [aO] [(o 3 4)], nd (o 3 3) [aO] [(o 3 5)], nd aO [aO] [aO]]
theorem l12l3_ok : vcallN X7 200 49 [l12g3, recV 1 2 2, bl true] = some l12l3 := by
  rw [← vcallF_eq]
  kernel_rfl
def l12g4 : V := lvl [nd (o 1 1) [(o 1 1)] [(o 1 1)], nd (o 1 4) [(o 1 4)] [(o 1 4)], nd (o 1 5) [(o 1 5)] [(o 1 5)], nd (o 2 1) [(o 2 1)] [(o 2 1)], nd (o 2 4) [(o 2 4)] [(o 2 4)], nd (o 2 5) [(o 2 5)] [(o 2 5)], nd (o 3 1) [(o 3 1)] [(o 3 1)], nd (o 3 4) [(o 3 2)] [(o 3 4)], nd (o 3 5) [(o 3 3)] [(o 3 5)], nd (o 4 1) [aO] [(o 4 1)], nd aO [aO] [aO]]
theorem l12g4_ok : vcallN X7 200 48 [l12l3, recV 1 2 3, bl true] = some l12g4 := by
  rw [← vcallF_eq]
  kernel_rfl
def l12l4 : V := lvl [nd (o 1 1) [(o 1 1)] [(o 1 1)], nd (o 1 4) [(o 1 4)] [(o 1 4)], nd (o 1 5) [(o 1 5)] [(o 1 5)], nd (o 2 1) [(o 2 1)] [(o 2 1)], nd (o 2 4) [(o 2 4)] [(o 2 4)], nd (o 2 5) [(o 2 5)] [(o 2 5)], nd (o 3 1) [(o 3 1)] [(o 3 1)], nd (o 3 4) [(o 3 2)] [(o 3 4)], nd (o 3 5) [(o 3 3)] [(o 3 5)], nd (o 4 1) [aO] [(o 4 1)], nd (o 4 2) [aO] [(o 4 4)], nd (o 4 3) [aO] [(o 4 5)], nd aO [aO] [aO]]
theorem l12l4_ok : vcallN X7 200 49 [l12g4, recV 1 2 3, bl true] = some l12l4 := by
  rw [← vcallF_eq]
  kernel_rfl
def l12g5 : V := lvl [nd (o 1 1) [(o 1 1)] [(o 1 1)], nd (o 1 4) [(o 1 4)] [(o 1 4)], nd (o 1 5) [(o 1 5)] [(o 1 5)], nd (o 2 1) [(o 2 1)] [(o 2 1)], nd (o 2 4) [(o 2 4)] [(o 2 4)], nd (o 2 5) [(o 2 5)] [(o 2 5)], nd (o 3 1) [(o 3 1)] [(o 3 1)], nd (o 3 4) [(o 3 4)] [(o 3 4)], nd (o 3 5) [(o 3 5)] [(o 3 5)], nd (o 4 1) [(o 4 1)] [(o 4 1)], nd (o 4 4) [(o 4 2)] [(o 4 4)], nd (o 4 5) [(o 4 3)] [(o 4 5)], nd (o 5 1) [aO] [(o 5 1)], nd aO [aO] [aO]]
theorem l12g5_ok : vcallN X7 200 48 [l12l4, recV 1 2 4, bl true] = some l12g5 := by
  rw [← vcallF_eq]
  kernel_rfl
def tab12 : Tab := [(48, [l12l0, recV 1 2 0, bl true], l12g1), (49, [l12g1, recV 1 2 0, bl true], l12l1), (48, [l12l1, recV 1 2 1, bl true], l12g2), (49, [l12g2, recV 1 2 1, bl true], l12l2), (48, [l12l2, recV 1 2 2, bl true], l12g3), (49, [l12g3, recV 1 2 2, bl true], l12l3), (48, [l12l3, recV 1 2 3, bl true], l12g4), (49, [l12g4, recV 1 2 3, bl true], l12l4), (48, [l12l4, recV 1 2 4, bl true], l12g5)]
theorem tab12_ok : ∀ x ∈ tab12, (x.1 = 48 ∨ x.1 = 49) ∧ vcallN X7 200 x.1 x.2.1 = some x.2.2 := by
  intro x hx
  simp only [tab12, List.mem_cons, List.not_mem_nil, or_false] at hx
  rcases hx with rfl | rfl | rfl | rfl | rfl | rfl | rfl | rfl | rfl
  · exact ⟨Or.inl rfl, l12g1_ok⟩
  · exact ⟨Or.inr rfl, l12l1_ok⟩
  · exact ⟨Or.inl rfl, l12g2_ok⟩
  · exact ⟨Or.inr rfl, l12l2_ok⟩
  · exact ⟨Or.inl rfl, l12g3_ok⟩
  · exact ⟨Or.inr rfl, l12l3_ok⟩
  · exact ⟨Or.inl rfl, l12g4_ok⟩
  · exact ⟨Or.inr rfl, l12l4_ok⟩
  · exact ⟨Or.inl rfl, l12g5_ok⟩

def l13l0 : V := lvl [ndR aO [aO]]
def l13g1 : V := lvl [nd (o 1 1) [aO] [(o 1 1)], nd aO [aO] [aO]]
theorem l13g1_ok : vcallN X7 200 48 [l13l0, recV 1 3 0, bl true] = some l13g1 := by
  rw [← vcallF_eq]
  kernel_rfl
def l13l1 : V := lvl [nd (o 1 1) [aO] [(o 1 1)], nd (o 1 2) [aO] [(o 1 5)], nd (o 1 3) [aO] [(o 1 6)], nd (o 1 4) [aO] [(o 1 7)], nd aO [aO] [aO]]
theorem l13l1_ok : vcallN X7 200 49 [l13g1, recV 1 3 0, bl true] = some l13l1 := by
  rw [← vcallF_eq]
  kernel_rfl
def l13g2 : V := lvl [nd (o 1 1) [(o 1 1)] [(o 1 1)], nd (o 1 5) [(o 1 2)] [(o 1 5)], nd (o 1 6) [(o 1 3)] [(o 1 6)], nd (o 1 7) [(o 1 4)] [(o 1 7)], nd (o 2 1) [aO] [(o 2 1)], nd aO [aO] [aO]]
theorem l13g2_ok : vcallN X7 200 48 [l13l1, recV 1 3 1, bl true] = some l13g2 := by
  rw [← vcallF_eq]
  kernel_rfl
def l13l2 : V := lvl [nd (o 1 1) [(o 1 1)] [(o 1 1)], nd (o 1 5) [(o 1 2)] [(o 1 5)], nd (o 1 6) [(o 1 3)] [(o 1 6)], nd (o 1 7) [(o 1 4)] [(o 1 7)], nd (o 2 1) [aO] [(o 2 1)], nd (o 2 2) [aO] [(o 2 5)], nd (o 2 3) [aO] [(o 2 6)], nd (o 2 4) [aO] [(o 2 7)], nd aO [aO] [aO]]
theorem l13l2_ok : vcallN X7 200 49 [l13g2, recV 1 3 1, bl true] = some l13l2 := by
  rw [← vcallF_eq]
  kernel_rfl
def l13g3 : V := lvl [nd (o 1 1) [(o 1 1)] [(o 1 1)], nd (o 1 5) [(o 1 5)] [(o 1 5)], nd (o 1 6) [(o 1 6)] [(o 1 6)], nd (o 1 7) [(o 1 7)] [(o 1 7)], nd (o 2 1) [(o 2 1)] [(o 2 1)], nd (o 2 5) [(o 2 2)] [(o 2 5)], nd (o 2 6) [(o 2 3)] [(o 2 6)], nd (o 2 7) [(o 2 4)] [(o 2 7)], nd (o 3 1) [aO] [(o 3 1)], nd aO [aO] [aO]]
theorem l13g3_ok : vcallN X7 200 48 [l13l2, recV 1 3 2, bl true] = some l13g3 := by
  rw [← vcallF_eq]
  kernel_rfl
def l13l3 : V := lvl [nd (o 1 1) [(o 1 1)] [(o 1 1)], nd (o 1 5) [(o 1 5)] [(o 1 5)], nd (o 1 6) [(o 1 6)] [(o 1 6)], nd (o 1 7) [(o 1 7)] [(o 1 7)], nd (o 2 1) [(o 2 1)] [(o 2 1)], nd (o 2 5) [(o 2 2)] [(o 2 5)], nd (o 2 6) [(o 2 3)] [(o 2 6)], nd (o 2 7) [(o 2 4)] [(o 2 7)], nd (o 3 1) [aO] [(o 3 1)], nd (o 3 2) [aO] [(o 3 5)], nd (o 3 3) [aO] [(o 3 6)], nd (o 3 4) [aO] [(o 3 7)], nd aO [aO] [aO]]
theorem l13l3_ok : vcallN X7 200 49 [l13g3, recV 1 3 2, bl true] = some l13l3 := by
  rw [← vcallF_eq]
  kernel_rfl
def l13g4 : V := lvl [nd (o 1 1) [(o 1 1)] [(o 1 1)], nd (o 1 5) [(o 1 5)] [(o 1 5)], nd (o 1 6) [(o 1 6)] [(o 1 6)], nd (o 1 7) [(o 1 7)] [(o 1 7)], nd (o 2 1) [(o 2 1)] [(o 2 1)], nd (o 2 5) [(o 2 5)] [(o 2 5)], nd (o 2 6) [(o 2 6)] [(o 2 6)], nd (o 2 7) [(o 2 7)] [(o 2 7)], nd (o 3 1) [(o 3 1)] [(o 3 1)], nd (o 3 5) [(o 3 2)] [(o 3 5)], nd (o 3 6) [(o 3 3)] [(o 3 6)], nd (o 3 7) [(o 3 4)] [(o 3 7)], nd (o 4 1) [aO] [(o 4 1)], nd aO [aO] [aO]]
theorem l13g4_ok : vcallN X7 200 48 [l13l3, recV 1 3 3, bl true] = some l13g4 := by
  rw [← vcallF_eq]
  kernel_rfl
def l13l4 : V := lvl [nd (o 1 1) [(o 1 1)] [(o 1 1)], nd (o 1 5) [(o 1 5)] [(o 1 5)], nd (o 1 6) [(o 1 6)] [(o 1 6)], nd (o 1 7) [(o 1 7)] [(o 1 7)], nd (o 2 1) [(o 2 1)] [(o 2 1)], nd (o 2 5) [(o 2 5)] [(o 2 5)], nd (o 2 6) [(o 2 6)] [(o 2 6)], nd (o 2 7) [(o 2 7)] [(o 2 7)], nd (o 3 1) [(o 3 1)] [(o 3 1)], nd (o 3 5) [(o 3 2)] [(o 3 5)], nd (o 3 6) [(o 3 3)] [(o 3 6)], nd (o 3 7) [(o 3 4)] [(o 3 7)], nd (o 4 1) [aO] [(o 4 1)], nd (o 4 2) [aO] [(o 4 5)], nd (o 4 3) [aO] [(o 4 6)], nd (o 4 4) [aO] [(o 4 7)], nd aO [aO] [aO]]
theorem l13l4_ok : vcallN X7 200 49 [l13g4, recV 1 3 3, bl true] = some l13l4 := by
  rw [← vcallF_eq]
  kernel_rfl
def l13g5 : V := lvl [nd (o 1 1) [(o 1 1)] [(o 1 1)], nd (o 1 5) [(o 1 5)] [(o 1 5)], nd (o 1 6) [(o 1 6)] [(o 1 6)], nd (o 1 7) [(o 1 7)] [(o 1 7)], nd (o 2 1) [(o 2 1)] [(o 2 1)], nd (o 2 5) [(o 2 5)] [(o 2 5)], nd (o 2 6) [(o 2 6)] [(o 2 6)], nd (o 2 7) [(o 2 7)] [(o 2 7)], nd (o 3 1) [(o 3 1)] [(o 3 1)], nd (o 3 5) [(o 3 5)] [(o 3 5)], nd (o 3 6) [(o 3 6)] [(o 3 6)], nd (o 3 7) [(o 3 7)] [(o 3 7)], nd (o 4 1) [(o 4 1)] [(o 4 1)], nd (o 4 5) [(o 4 2)] [(o 4 5)], nd (o 4 6) [(o 4 3)] [(o 4 6)], nd (o 4 7) [(o 4 4)] [(o 4 7)], nd (o 5 1) [aO] [(o 5 1)], nd aO [aO] [aO]]
theorem l13g5_ok : vcallN X7 200 48 [l13l4, recV 1 3 4, bl true] = some l13g5 := by
  rw [← vcallF_eq]
  kernel_rfl
def tab13 : Tab := [(48, [l13l0, recV 1 3 0, bl true], l13g1), (49, [l13g1, recV 1 3 0, bl true], l13l1), (48, [l13l1, recV 1 3 1, bl true], l13g2), (49, [l13g2, recV 1 3 1, bl true], l13l2), (48, [l13l2, recV 1 3 2, bl true], l13g3), (49, [l13g3, recV 1 3 2, bl true], l13l3), (48, [l13l3, recV 1 3 3, bl true], l13g4), (49, [l13g4, recV 1 3 3, bl true], l13l4), (48, [l13l4, recV 1 3 4, bl true], l13g5)]
theorem tab13_ok : ∀ x ∈ tab13, (x.1 = 48 ∨ x.1 = 49) ∧ vcallN X7 200 x.1 x.2.1 = some x.2.2 := by
  intro x hx
  simp only [tab13, List.mem_cons, List.not_mem_nil, or_false] at hx
  rcases hx with rfl | rfl | rfl | rfl | rfl | rfl | rfl | rfl | rfl
  · exact ⟨Or.inl rfl, l13g1_ok⟩
  · exact ⟨Or.inr rfl, l13l1_ok⟩
  · exact ⟨Or.inl rfl, l13g2_ok⟩
  · exact ⟨Or.inr rfl, l13l2_ok⟩
  · exact ⟨Or.inl rfl, l13g3_ok⟩
  · exact ⟨Or.inr rfl, l13l3_ok⟩
  · exact ⟨Or.inl rfl, l13g4_ok⟩
  · exact ⟨Or.inr rfl, l13l4_ok⟩
  · exact ⟨Or.inl rfl, l13g5_ok⟩
end Mini
end Go.Proofs.YtcilepbdddgpoaaDoor
namespace Go.Proofs.YtcilepbdddgpoaaDoor
namespace Mini
open Go
theorem run5_110 (a b c : V) : (run5 tab10 a b c 1 1 0).map (·.1) = some (.c (.d (.bool true))) := by kernel_rfl
theorem run5_210 (a b c : V) : (run5 tab10 a b c 2 1 0).map (·.1) = some (.c (.d (.bool true))) := by kernel_rfl
theorem run5_310 (a b c : V) : (run5 tab10 a b c 3 1 0).map (·.1) = some (.c (.d (.bool true))) := by kernel_rfl
theorem run5_410 (a b c : V) : (run5 tab10 a b c 4 1 0).map (·.1) = some (.c (.d (.bool true))) := by kernel_rfl
theorem run5_510 (a b c : V) : (run5 tab10 a b c 5 1 0).map (·.1) = some (.c (.d (.bool true))) := by kernel_rfl
theorem run5_111 (a b c : V) : (run5 tab11 a b c 1 1 1).map (·.1) = some (.c (.d (.bool true))) := by kernel_rfl
theorem run5_211 (a b c : V) : (run5 tab11 a b c 2 1 1).map (·.1) = some (.c (.d (.bool true))) := by kernel_rfl
theorem run5_311 (a b c : V) : (run5 tab11 a b c 3 1 1).map (·.1) = some (.c (.d (.bool true))) := by kernel_rfl
theorem run5_411 (a b c : V) : (run5 tab11 a b c 4 1 1).map (·.1) = some (.c (.d (.bool true))) := by kernel_rfl
theorem run5_511 (a b c : V) : (run5 tab11 a b c 5 1 1).map (·.1) = some (.c (.d (.bool true))) := by kernel_rfl
theorem run5_112 (a b c : V) : (run5 tab12 a b c 1 1 2).map (·.1) = some (.c (.d (.bool true))) := by kernel_rfl
theorem run5_212 (a b c : V) : (run5 tab12 a b c 2 1 2).map (·.1) = some (.c (.d (.bool true))) := by kernel_rfl
theorem run5_312 (a b c : V) : (run5 tab12 a b c 3 1 2).map (·.1) = some (.c (.d (.bool true))) := by kernel_rfl
theorem run5_412 (a b c : V) : (run5 tab12 a b c 4 1 2).map (·.1) = some (.c (.d (.bool true))) := by kernel_rfl
theorem run5_512 (a b c : V) : (run5 tab12 a b c 5 1 2).map (·.1) = some (.c (.d (.bool true))) := by kernel_rfl
theorem run5_113 (a b c : V) : (run5 tab13 a b c 1 1 3).map (·.1) = some (.c (.d (.bool true))) := by kernel_rfl
theorem run5_213 (a b c : V) : (run5 tab13 a b c 2 1 3).map (·.1) = some (.c (.d (.bool true))) := by kernel_rfl
theorem run5_313 (a b c : V) : (run5 tab13 a b c 3 1 3).map (·.1) = some (.c (.d (.bool true))) := by kernel_rfl
theorem run5_413 (a b c : V) : (run5 tab13 a b c 4 1 3).map (·.1) = some (.c (.d (.bool true))) := by kernel_rfl
theorem run5_513 (a b c : V) : (run5 tab13 a b c 5 1 3).map (·.1) = some (.c (.d (.bool true))) := by kernel_rfl
end Mini
end Go.Proofs.YtcilepbdddgpoaaDoor
