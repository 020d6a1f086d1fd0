/-
  The levels of long paths with 0 policies, and the law's runs, by the kernel.
-/
import Derived.Test.YtcilepbdddgpoaaDoorMiniJH
namespace Go.Proofs.YtcilepbdddgpoaaDoor
namespace Mini
open Go

def l00g0 : V := lvl [ndR aO [aO]]
def l00g1 : V := lvl [nd aO [aO] [aO]]
theorem l00g1_ok : vcallN X7 200 48 [l00g0, recV 0 0 0, bl true] = some l00g1 := by
  rw [← vcallF_eq]
  kernel_rfl
def l00g2 : V := lvl [nd aO [aO] [aO]]
theorem l00g2_ok : vcallN X7 200 48 [l00g1, recV 0 0 1, bl true] = some l00g2 := by
  rw [← vcallF_eq]
  kernel_rfl
def l00g3 : V := lvl [nd aO [aO] [aO]]
theorem l00g3_ok : vcallN X7 200 48 [l00g2, recV 0 0 2, bl true] = some l00g3 := by
  rw [← vcallF_eq]
  kernel_rfl
def l00g4 : V := lvl [nd aO [aO] [aO]]
theorem l00g4_ok : vcallN X7 200 48 [l00g3, recV 0 0 3, bl true] = some l00g4 := by
  rw [← vcallF_eq]
  kernel_rfl
def l00g5 : V := lvl [nd aO [aO] [aO]]
theorem l00g5_ok : vcallN X7 200 48 [l00g4, recV 0 0 4, bl true] = some l00g5 := by
  rw [← vcallF_eq]
  kernel_rfl
def tab00 : Tab := [(48, [l00g0, recV 0 0 0, bl true], l00g1), (48, [l00g1, recV 0 0 1, bl true], l00g2), (48, [l00g2, recV 0 0 2, bl true], l00g3), (48, [l00g3, recV 0 0 3, bl true], l00g4), (48, [l00g4, recV 0 0 4, bl true], l00g5)]
theorem tab00_ok : ∀ x ∈ tab00, (x.1 = 48 ∨ x.1 = 49) ∧ vcallN X7 200 x.1 x.2.1 = some x.2.2 := by
  intro x hx
  simp only [tab00, List.mem_cons, List.not_mem_nil, or_false] at hx
  rcases hx with rfl | rfl | rfl | rfl | rfl
  · exact ⟨Or.inl rfl, l00g1_ok⟩
  · exact ⟨Or.inl rfl, l00g2_ok⟩
  · exact ⟨Or.inl rfl, l00g3_ok⟩
  · exact ⟨Or.inl rfl, l00g4_ok⟩
  · exact ⟨Or.inl rfl, l00g5_ok⟩

def l01l0 : V := lvl [ndR aO [aO]]
def l01g1 : V := lvl [nd aO [aO] [aO]]
theorem l01g1_ok : vcallN X7 200 48 [l01l0, recV 0 1 0, bl true] = some l01g1 := by
  rw [← vcallF_eq]
  kernel_rfl
def l01l1 : V := lvl [nd (o 1 1) [aO] [(o 1 2)], nd aO [aO] [aO]]
theorem l01l1_ok : vcallN X7 200 49 [l01g1, recV 0 1 0, bl true] = some l01l1 := by
  rw [← vcallF_eq]
  kernel_rfl
def l01g2 : V := lvl [nd (o 1 2) [(o 1 1)] [(o 1 2)], nd aO [aO] [aO]]
theorem l01g2_ok : vcallN X7 200 48 [l01l1, recV 0 1 1, bl true] = some l01g2 := by
  rw [← vcallF_eq]
  kernel_rfl
def l01l2 : V := lvl [nd (o 1 2) [(o 1 1)] [(o 1 2)], nd (o 2 1) [aO] [(o 2 2)], nd aO [aO] [aO]]
theorem l01l2_ok : vcallN X7 200 49 [l01g2, recV 0 1 1, bl true] = some l01l2 := by
  rw [← vcallF_eq]
  kernel_rfl
def l01g3 : V := lvl [nd (o 1 2) [(o 1 2)] [(o 1 2)], nd (o 2 2) [(o 2 1)] [(o 2 2)], nd aO [aO] [aO]]
theorem l01g3_ok : vcallN X7 200 48 [l01l2, recV 0 1 2, bl true] = some l01g3 := by
  rw [← vcallF_eq]
  kernel_rfl
def l01l3 : V := lvl [nd (o 1 2) [(o 1 2)] [(o 1 2)], nd (o 2 2) [(o 2 1)] [(o 2 2)], nd (o 3 1) [aO] [(o 3 2)], nd aO [aO] [aO]]
theorem l01l3_ok : vcallN X7 200 49 [l01g3, recV 0 1 2, bl true] = some l01l3 := by
  rw [← vcallF_eq]
  kernel_rfl
def l01g4 : V := lvl [nd (o 1 2) [(o 1 2)] [(o 1 2)], nd (o 2 2) [(o 2 2)] [(o 2 2)], nd (o 3 2) [(o 3 1)] [(o 3 2)], nd aO [aO] [aO]]
theorem l01g4_ok : vcallN X7 200 48 [l01l3, recV 0 1 3, bl true] = some l01g4 := by
  rw [← vcallF_eq]
  kernel_rfl
def l01l4 : V := lvl [nd (o 1 2) [(o 1 2)] [(o 1 2)], nd (o 2 2) [(o 2 2)] [(o 2 2)], nd (o 3 2) [(o 3 1)] [(o 3 2)], nd (o 4 1) [aO] [(o 4 2)], nd aO [aO] [aO]]
theorem l01l4_ok : vcallN X7 200 49 [l01g4, recV 0 1 3, bl true] = some l01l4 := by
  rw [← vcallF_eq]
  kernel_rfl
def l01g5 : V := lvl [nd (o 1 2) [(o 1 2)] [(o 1 2)], nd (o 2 2) [(o 2 2)] [(o 2 2)], nd (o 3 2) [(o 3 2)] [(o 3 2)], nd (o 4 2) [(o 4 1)] [(o 4 2)], nd aO [aO] [aO]]
theorem l01g5_ok : vcallN X7 200 48 [l01l4, recV 0 1 4, bl true] = some l01g5 := by
  rw [← vcallF_eq]
  kernel_rfl
def tab01 : Tab := [(48, [l01l0, recV 0 1 0, bl true], l01g1), (49, [l01g1, recV 0 1 0, bl true], l01l1), (48, [l01l1, recV 0 1 1, bl true], l01g2), (49, [l01g2, recV 0 1 1, bl true], l01l2), (48, [l01l2, recV 0 1 2, bl true], l01g3), (49, [l01g3, recV 0 1 2, bl true], l01l3), (48, [l01l3, recV 0 1 3, bl true], l01g4), (49, [l01g4, recV 0 1 3, bl true], l01l4), (48, [l01l4, recV 0 1 4, bl true], l01g5)]
theorem tab01_ok : ∀ x ∈ tab01, (x.1 = 48 ∨ x.1 = 49) ∧ vcallN X7 200 x.1 x.2.1 = some x.2.2 := by
  intro x hx
  simp only [tab01, List.mem_cons, List.not_mem_nil, or_false] at hx
  rcases hx with rfl | rfl | rfl | rfl | rfl | rfl | rfl | rfl | rfl
  · exact ⟨Or.inl rfl, l01g1_ok⟩
  · exact ⟨Or.inr rfl, l01l1_ok⟩
  · exact ⟨Or.inl rfl, l01g2_ok⟩
  · exact ⟨Or.inr rfl, l01l2_ok⟩
  · exact ⟨Or.inl rfl, l01g3_ok⟩
  · exact ⟨Or.inr rfl, l01l3_ok⟩
  · exact ⟨Or.inl rfl, l01g4_ok⟩
  · exact ⟨Or.inr rfl, l01l4_ok⟩
  · exact ⟨Or.inl rfl, l01g5_ok⟩

def l02l0 : V := lvl [ndR aO [aO]]
def l02g1 : V := lvl [nd aO [aO] [aO]]
theorem l02g1_ok : vcallN X7 200 48 [l02l0, recV 0 2 0, bl true] = some l02g1 := by
  rw [← vcallF_eq]
  kernel_rfl
def l02l1 : V := lvl [nd (o 1 1) [aO] [(o 1 3)], nd (o 1 2) [aO] [(o 1 4)], nd aO [aO] [aO]]
theorem l02l1_ok : vcallN X7 200 49 [l02g1, recV 0 2 0, bl true] = some l02l1 := by
  rw [← vcallF_eq]
  kernel_rfl
def l02g2 : V := lvl [nd (o 1 3) [(o 1 1)] [(o 1 3)], nd (o 1 4) [(o 1 2)] [(o 1 4)], nd aO [aO] [aO]]
theorem l02g2_ok : vcallN X7 200 48 [l02l1, recV 0 2 1, bl true] = some l02g2 := by
  rw [← vcallF_eq]
  kernel_rfl
def l02l2 : V := lvl [nd (o 1 3) [(o 1 1)] [(o 1 3)], nd (o 1 4) [(o 1 2)] [(o 1 4)], nd (o 2 1) [aO] [(o 2 3)], nd (o 2 2) [aO] [(o 2 4)], nd aO [aO] [aO]]
theorem l02l2_ok : vcallN X7 200 49 [l02g2, recV 0 2 1, bl true] = some l02l2 := by
  rw [← vcallF_eq]
  kernel_rfl
def l02g3 : V := lvl [nd (o 1 3) [(o 1 3)] [(o 1 3)], nd (o 1 4) [(o 1 4)] [(o 1 4)], nd (o 2 3) [(o 2 1)] [(o 2 3)], nd (o 2 4) [(o 2 2)] [(o 2 4)], nd aO [aO] [aO]]
theorem l02g3_ok : vcallN X7 200 48 [l02l2, recV 0 2 2, bl true] = some l02g3 := by
  rw [← vcallF_eq]
  kernel_rfl
def l02l3 : V := lvl [nd (o 1 3) [(o 1 3)] [(o 1 3)], nd (o 1 4) [(o 1 4)] [(o 1 4)], nd (o 2 3) [(o 2 1)] [(o 2 3)], nd (o 2 4) [(o 2 2)] [(o 2 4)], nd (o 3 1) [aO] [(o 3 3)], nd (o 3 2) [aO] [(o 3 4)], nd aO [aO] [aO]]
theorem l02l3_ok : vcallN X7 200 49 [l02g3, recV 0 2 2, bl true] = some l02l3 := by
  rw [← vcallF_eq]
  kernel_rfl
def l02g4 : V := lvl [nd (o 1 3) [(o 1 3)] [(o 1 3)], nd (o 1 4) [(o 1 4)] [(o 1 4)], nd (o 2 3) [(o 2 3)] [(o 2 3)], nd (o 2 4) [(o 2 4)] [(o 2 4)], nd (o 3 3) [(o 3 1)] [(o 3 3)], nd (o 3 4) [(o 3 2)] [(o 3 4)], nd aO [aO] [aO]]
theorem l02g4_ok : vcallN X7 200 48 [l02l3, recV 0 2 3, bl true] = some l02g4 := by
  rw [← vcallF_eq]
  kernel_rfl
def l02l4 : V := lvl [nd (o 1 3) [(o 1 3)] [(o 1 3)], nd (o 1 4) [(o 1 4)] [(o 1 4)], nd (o 2 3) [(o 2 3)] [(o 2 3)], nd (o 2 4) [(o 2 4)] [(o 2 4)], nd (o 3 3) [(o 3 1)] [(o 3 3)], nd (o 3 4) [(o 3 2)] [(o 3 4)], nd (o 4 1) [aO] [(o 4 3)], nd (o 4 2) [aO] [(o 4 4)], nd aO [aO] [aO]]
theorem l02l4_ok : vcallN X7 200 49 [l02g4, recV 0 2 3, bl true] = some l02l4 := by
  rw [← vcallF_eq]
  kernel_rfl
def l02g5 : V := lvl [nd (o 1 3) [(o 1 3)] [(o 1 3)], nd (o 1 4) [(o 1 4)] [(o 1 4)], nd (o 2 3) [(o 2 3)] [(o 2 3)], nd (o 2 4) [(o 2 4)] [(o 2 4)], nd (o 3 3) [(o 3 3)] [(o 3 3)], nd (o 3 4) [(o 3 4)] [(o 3 4)], nd (o 4 3) [(o 4 1)] [(o 4 3)], nd (o 4 4) [(o 4 2)] [(o 4 4)], nd aO [aO] [aO]]
theorem l02g5_ok : vcallN X7 200 48 [l02l4, recV 0 2 4, bl true] = some l02g5 := by
  rw [← vcallF_eq]
  kernel_rfl
def tab02 : Tab := [(48, [l02l0, recV 0 2 0, bl true], l02g1), (49, [l02g1, recV 0 2 0, bl true], l02l1), (48, [l02l1, recV 0 2 1, bl true], l02g2), (49, [l02g2, recV 0 2 1, bl true], l02l2), (48, [l02l2, recV 0 2 2, bl true], l02g3), (49, [l02g3, recV 0 2 2, bl true], l02l3), (48, [l02l3, recV 0 2 3, bl true], l02g4), (49, [l02g4, recV 0 2 3, bl true], l02l4), (48, [l02l4, recV 0 2 4, bl true], l02g5)]
theorem tab02_ok : ∀ x ∈ tab02, (x.1 = 48 ∨ x.1 = 49) ∧ vcallN X7 200 x.1 x.2.1 = some x.2.2 := by
  intro x hx
  simp only [tab02, List.mem_cons, List.not_mem_nil, or_false] at hx
  rcases hx with rfl | rfl | rfl | rfl | rfl | rfl | rfl | rfl | rfl
  · exact ⟨Or.inl rfl, l02g1_ok⟩
  · exact ⟨Or.inr rfl, l02l1_ok⟩
  · exact ⟨Or.inl rfl, l02g2_ok⟩
  · exact ⟨Or.inr rfl, l02l2_ok⟩
  · exact ⟨Or.inl rfl, l02g3_ok⟩
  · exact ⟨Or.inr rfl, l02l3_ok⟩
  · exact ⟨Or.inl rfl, l02g4_ok⟩
  · exact ⟨Or.inr rfl, l02l4_ok⟩
  · exact ⟨Or.inl rfl, l02g5_ok⟩

def l03l0 : V := lvl [ndR aO [aO]]
def l03g1 : V := lvl [nd aO [aO] [aO]]
theorem l03g1_ok : vcallN X7 200 48 [l03l0, recV 0 3 0, bl true] = some l03g1 := by
  rw [← vcallF_eq]
  kernel_rfl
def l03l1 : V := lvl [nd (o 1 1) [aO] [(o 1 4)], nd (o 1 2) [aO] [(o 1 5)], nd (o 1 3) [aO] [(o 1 6)], nd aO [aO] [aO]]
theorem l03l1_ok : vcallN X7 200 49 [l03g1, recV 0 3 0, bl true] = some l03l1 := by
  rw [← vcallF_eq]
  kernel_rfl
def l03g2 : V := lvl [nd (o 1 4) [(o 1 1)] [(o 1 4)], nd (o 1 5) [(o 1 2)] [(o 1 5)], nd (o 1 6) [(o 1 3)] [(o 1 6)], nd aO [aO] [aO]]
theorem l03g2_ok : vcallN X7 200 48 [l03l1, recV 0 3 1, bl true] = some l03g2 := by
  rw [← vcallF_eq]
  kernel_rfl
def l03l2 : V := lvl [nd (o 1 4) [(o 1 1)] [(o 1 4)], nd (o 1 5) [(o 1 2)] [(o 1 5)], nd (o 1 6) [(o 1 3)] [(o 1 6)], nd (o 2 1) [aO] [(o 2 4)], nd (o 2 2) [aO] [(o 2 5)], nd (o 2 3) [aO] [(o 2 6)], nd aO [aO] [aO]]
theorem l03l2_ok : vcallN X7 200 49 [l03g2, recV 0 3 1, bl true] = some l03l2 := by
  rw [← vcallF_eq]
  kernel_rfl
def l03g3 : V := lvl [nd (o 1 4) [(o 1 4)] [(o 1 4)], nd (o 1 5) [(o 1 5)] [(o 1 5)], nd (o 1 6) [(o 1 6)] [(o 1 6)], nd (o 2 4) [(o 2 1)] [(o 2 4)], nd (o 2 5) [(o 2 2)] [(o 2 5)], nd (o 2 6) [(o 2 3)] [(o 2 6)], nd aO [aO] [aO]]
theorem l03g3_ok : vcallN X7 200 48 [l03l2, recV 0 3 2, bl true] = some l03g3 := by
  rw [← vcallF_eq]
  kernel_rfl
def l03l3 : V := lvl [nd (o 1 4) [(o 1 4)] [(o 1 4)], nd (o 1 5) [(o 1 5)] [(o 1 5)], nd (o 1 6) [(o 1 6)] [(o 1 6)], nd (o 2 4) [(o 2 1)] [(o 2 4)], nd (o 2 5) [(o 2 2)] [(o 2 5)], nd (o 2 6) [(o 2 3)] [(o 2 6)], nd (o 3 1) [aO] [(o 3 4)], nd (o 3 2) [aO] [(o 3 5)], nd (o 3 3) [aO] [(o 3 6)], nd aO [aO] [aO]]
theorem l03l3_ok : vcallN X7 200 49 [l03g3, recV 0 3 2, bl true] = some l03l3 := by
  rw [← vcallF_eq]
  kernel_rfl
def l03g4 : V := lvl [nd (o 1 4) [(o 1 4)] [(o 1 4)], nd (o 1 5) [(o 1 5)] [(o 1 5)], nd (o 1 6) [(o 1 6)] [(o 1 6)], nd (o 2 4) [(o 2 4)] [(o 2 4)], nd (o 2 5) [(o 2 5)] [(o 2 5)], nd (o 2 6) [(o 2 6)] [(o 2 6)], nd (o 3 4) [(o 3 1)] [(o 3 4)], nd (o 3 5) [(o 3 2)] [(o 3 5)], nd (o 3 6) [(o 3 3)] [(o 3 6)], nd aO [aO] [aO]]
theorem l03g4_ok : vcallN X7 200 48 [l03l3, recV 0 3 3, bl true] = some l03g4 := by
  rw [← vcallF_eq]
  kernel_rfl
def l03l4 : V := lvl [nd (o 1 4) [(o 1 4)] [(o 1 4)], nd (o 1 5) [(o 1 5)] [(o 1 5)], nd (o 1 6) [(o 1 6)] [(o 1 6)], nd (o 2 4) [(o 2 4)] [(o 2 4)], nd (o 2 5) [(o 2 5)] [(o 2 5)], nd (o 2 6) [(o 2 6)] [(o 2 6)], nd (o 3 4) [(o 3 1)] [(o 3 4)], nd (o 3 5) [(o 3 2)] [(o 3 5)], nd (o 3 6) [(o 3 3)] [(o 3 6)], nd (o 4 1) [aO] [(o 4 4)], nd (o 4 2) [aO] [(o 4 5)], nd (o 4 3) [aO] [(o 4 6)], nd aO [aO] [aO]]
theorem l03l4_ok : vcallN X7 200 49 [l03g4, recV 0 3 3, bl true] = some l03l4 := by
  rw [← vcallF_eq]
  kernel_rfl
def l03g5 : V := lvl [nd (o 1 4) [(o 1 4)] [(o 1 4)], nd (o 1 5) [(o 1 5)] [(o 1 5)], nd (o 1 6) [(o 1 6)] [(o 1 6)], nd (o 2 4) [(o 2 4)] [(o 2 4)], nd (o 2 5) [(o 2 5)] [(o 2 5)], nd (o 2 6) [(o 2 6)] [(o 2 6)], nd (o 3 4) [(o 3 4)] [(o 3 4)], nd (o 3 5) [(o 3 5)] [(o 3 5)], nd (o 3 6) [(o 3 6)] [(o 3 6)], nd (o 4 4) [(o 4 1)] [(o 4 4)], nd (o 4 5) [(o 4 2)] [(o 4 5)], nd (o 4 6) [(o 4 3)] [(o 4 6)], nd aO [aO] [aO]]
theorem l03g5_ok : vcallN X7 200 48 [l03l4, recV 0 3 4, bl true] = some l03g5 := by
  rw [← vcallF_eq]
  kernel_rfl
def tab03 : Tab := [(48, [l03l0, recV 0 3 0, bl true], l03g1), (49, [l03g1, recV 0 3 0, bl true], l03l1), (48, [l03l1, recV 0 3 1, bl true], l03g2), (49, [l03g2, recV 0 3 1, bl true], l03l2), (48, [l03l2, recV 0 3 2, bl true], l03g3), (49, [l03g3, recV 0 3 2, bl true], l03l3), (48, [l03l3, recV 0 3 3, bl true], l03g4), (49, [l03g4, recV 0 3 3, bl true], l03l4), (48, [l03l4, recV 0 3 4, bl true], l03g5)]
theorem tab03_ok : ∀ x ∈ tab03, (x.1 = 48 ∨ x.1 = 49) ∧ vcallN X7 200 x.1 x.2.1 = some x.2.2 := by
  intro x hx
  simp only [tab03, List.mem_cons, List.not_mem_nil, or_false] at hx
  rcases hx with rfl | rfl | rfl | rfl | rfl | rfl | rfl | rfl | rfl
  · exact ⟨Or.inl rfl, l03g1_ok⟩
  · exact ⟨Or.inr rfl, l03l1_ok⟩
  · exact ⟨Or.inl rfl, l03g2_ok⟩
  · exact ⟨Or.inr rfl, l03l2_ok⟩
  · exact ⟨Or.inl rfl, l03g3_ok⟩
  · exact ⟨Or.inr rfl, l03l3_ok⟩
  · exact ⟨Or.inl rfl, l03g4_ok⟩
  · exact ⟨Or.inr rfl, l03l4_ok⟩
  · exact ⟨Or.inl rfl, l03g5_ok⟩
end Mini
end Go.Proofs.YtcilepbdddgpoaaDoor
namespace Go.Proofs.YtcilepbdddgpoaaDoor
namespace Mini
open Go
theorem run5_100 (a b c : V) : (run5 tab00 a b c 1 0 0).map (·.1) = some (.c (.d (.bool true))) := by kernel_rfl
theorem run5_200 (a b c : V) : (run5 tab00 a b c 2 0 0).map (·.1) = some (.c (.d (.bool true))) := by kernel_rfl
theorem run5_300 (a b c : V) : (run5 tab00 a b c 3 0 0).map (·.1) = some (.c (.d (.bool true))) := by kernel_rfl
theorem run5_400 (a b c : V) : (run5 tab00 a b c 4 0 0).map (·.1) = some (.c (.d (.bool true))) := by kernel_rfl
theorem run5_500 (a b c : V) : (run5 tab00 a b c 5 0 0).map (·.1) = some (.c (.d (.bool true))) := by kernel_rfl
theorem run5_101 (a b c : V) : (run5 tab01 a b c 1 0 1).map (·.1) = some (.c (.d (.bool true))) := by kernel_rfl
theorem run5_201 (a b c : V) : (run5 tab01 a b c 2 0 1).map (·.1) = some (.c (.d (.bool true))) := by kernel_rfl
theorem run5_301 (a b c : V) : (run5 tab01 a b c 3 0 1).map (·.1) = some (.c (.d (.bool true))) := by kernel_rfl
theorem run5_401 (a b c : V) : (run5 tab01 a b c 4 0 1).map (·.1) = some (.c (.d (.bool true))) := by kernel_rfl
theorem run5_501 (a b c : V) : (run5 tab01 a b c 5 0 1).map (·.1) = some (.c (.d (.bool true))) := by kernel_rfl
theorem run5_102 (a b c : V) : (run5 tab02 a b c 1 0 2).map (·.1) = some (.c (.d (.bool true))) := by kernel_rfl
theorem run5_202 (a b c : V) : (run5 tab02 a b c 2 0 2).map (·.1) = some (.c (.d (.bool true))) := by kernel_rfl
theorem run5_302 (a b c : V) : (run5 tab02 a b c 3 0 2).map (·.1) = some (.c (.d (.bool true))) := by kernel_rfl
theorem run5_402 (a b c : V) : (run5 tab02 a b c 4 0 2).map (·.1) = some (.c (.d (.bool true))) := by kernel_rfl
theorem run5_502 (a b c : V) : (run5 tab02 a b c 5 0 2).map (·.1) = some (.c (.d (.bool true))) := by kernel_rfl
theorem run5_103 (a b c : V) : (run5 tab03 a b c 1 0 3).map (·.1) = some (.c (.d (.bool true))) := by kernel_rfl
theorem run5_203 (a b c : V) : (run5 tab03 a b c 2 0 3).map (·.1) = some (.c (.d (.bool true))) := by kernel_rfl
theorem run5_303 (a b c : V) : (run5 tab03 a b c 3 0 3).map (·.1) = some (.c (.d (.bool true))) := by kernel_rfl
theorem run5_403 (a b c : V) : (run5 tab03 a b c 4 0 3).map (·.1) = some (.c (.d (.bool true))) := by kernel_rfl
theorem run5_503 (a b c : V) : (run5 tab03 a b c 5 0 3).map (·.1) = some (.c (.d (.bool true))) := by kernel_rfl
end Mini
end Go.Proofs.YtcilepbdddgpoaaDoor
