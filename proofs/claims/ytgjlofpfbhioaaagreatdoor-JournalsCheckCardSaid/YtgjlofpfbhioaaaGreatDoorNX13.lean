/-
  JournalsCheck: texts of the proof, part 14.
-/
import Derived.Test.YtgjlofpfbhioaaaGreatDoorNX12
import Derived.Test.YtgjlofpfbhioaaaGreatDoorProg
import Derived.KernelRfl
namespace Go.Proofs.YtgjlofpfbhioaaaGreatDoor
namespace Mini
theorem ok19 : okFn Tryz.prog fn19 Tryz.f19 = true := by kernel_rfl
theorem ok20 : okFn Tryz.prog fn20 Tryz.f20 = true := by kernel_rfl
theorem ok33 : okFn Tryz.prog fn33 Tryz.f33 = true := by kernel_rfl
theorem ok53 : okFn Tryz.prog fn53 Tryz.f53 = true := by kernel_rfl
theorem ok54 : okFn Tryz.prog fn54 Tryz.f54 = true := by kernel_rfl
theorem ok56 : okFn Tryz.prog fn56 Tryz.f56 = true := by kernel_rfl
theorem ok58 : okFn Tryz.prog fn58 Tryz.f58 = true := by kernel_rfl
theorem ok61 : okFn Tryz.prog fn61 Tryz.f61 = true := by kernel_rfl
theorem ok70 : okFn Tryz.prog fn70 Tryz.f70 = true := by kernel_rfl
theorem ok83 : okFn Tryz.prog fn83 Tryz.f83 = true := by kernel_rfl
theorem ok85 : okFn Tryz.prog fn85 Tryz.f85 = true := by kernel_rfl
theorem ok86 : okFn Tryz.prog fn86 Tryz.f86 = true := by kernel_rfl
theorem ok87 : okFn Tryz.prog fn87 Tryz.f87 = true := by kernel_rfl
theorem ok89 : okFn Tryz.prog fn89 Tryz.f89 = true := by kernel_rfl
theorem ok93 : okFn Tryz.prog fn93 Tryz.f93 = true := by kernel_rfl
theorem ok94 : okFn Tryz.prog fn94 Tryz.f94 = true := by kernel_rfl
theorem ok107 : okFn Tryz.prog fn107 Tryz.f107 = true := by kernel_rfl
theorem ok109 : okFn Tryz.prog fn109 Tryz.f109 = true := by kernel_rfl
theorem ok111 : okFn Tryz.prog fn111 Tryz.f111 = true := by kernel_rfl
theorem ok115 : okFn Tryz.prog fn115 Tryz.f115 = true := by kernel_rfl
theorem ok116 : okFn Tryz.prog fn116 Tryz.f116 = true := by kernel_rfl
theorem ok117 : okFn Tryz.prog fn117 Tryz.f117 = true := by kernel_rfl
theorem ok118 : okFn Tryz.prog fn118 Tryz.f118 = true := by kernel_rfl
theorem ok135 : okFn Tryz.prog fn135 Tryz.f135 = true := by kernel_rfl
theorem ok136 : okFn Tryz.prog fn136 Tryz.f136 = true := by kernel_rfl
theorem ok148 : okFn Tryz.prog fn148 Tryz.f148 = true := by kernel_rfl
theorem ok149 : okFn Tryz.prog fn149 Tryz.f149 = true := by kernel_rfl
theorem ok150 : okFn Tryz.prog fn150 Tryz.f150 = true := by kernel_rfl
theorem ok168 : okFn Tryz.prog fn168 Tryz.f168 = true := by kernel_rfl
end Mini
end Go.Proofs.YtgjlofpfbhioaaaGreatDoor
namespace Go.Proofs.YtgjlofpfbhioaaaGreatDoor
namespace Mini
open Go
def Form (f : FuncId) (F : Fn) : Prop := Enters Tryz.prog f ∧ ∃ fn, Tryz.prog.funcs[f]? = some fn ∧ okFn Tryz.prog F fn = true
theorem en19 : Form 19 fn19 := ⟨⟨Tryz.f19, by kernel_rfl, by kernel_rfl, by kernel_rfl⟩, Tryz.f19, by kernel_rfl, ok19⟩
theorem en20 : Form 20 fn20 := ⟨⟨Tryz.f20, by kernel_rfl, by kernel_rfl, by kernel_rfl⟩, Tryz.f20, by kernel_rfl, ok20⟩
theorem en33 : Form 33 fn33 := ⟨⟨Tryz.f33, by kernel_rfl, by kernel_rfl, by kernel_rfl⟩, Tryz.f33, by kernel_rfl, ok33⟩
theorem en53 : Form 53 fn53 := ⟨⟨Tryz.f53, by kernel_rfl, by kernel_rfl, by kernel_rfl⟩, Tryz.f53, by kernel_rfl, ok53⟩
theorem en54 : Form 54 fn54 := ⟨⟨Tryz.f54, by kernel_rfl, by kernel_rfl, by kernel_rfl⟩, Tryz.f54, by kernel_rfl, ok54⟩
theorem en56 : Form 56 fn56 := ⟨⟨Tryz.f56, by kernel_rfl, by kernel_rfl, by kernel_rfl⟩, Tryz.f56, by kernel_rfl, ok56⟩
theorem en58 : Form 58 fn58 := ⟨⟨Tryz.f58, by kernel_rfl, by kernel_rfl, by kernel_rfl⟩, Tryz.f58, by kernel_rfl, ok58⟩
theorem en61 : Form 61 fn61 := ⟨⟨Tryz.f61, by kernel_rfl, by kernel_rfl, by kernel_rfl⟩, Tryz.f61, by kernel_rfl, ok61⟩
theorem en70 : Form 70 fn70 := ⟨⟨Tryz.f70, by kernel_rfl, by kernel_rfl, by kernel_rfl⟩, Tryz.f70, by kernel_rfl, ok70⟩
theorem en83 : Form 83 fn83 := ⟨⟨Tryz.f83, by kernel_rfl, by kernel_rfl, by kernel_rfl⟩, Tryz.f83, by kernel_rfl, ok83⟩
theorem en85 : Form 85 fn85 := ⟨⟨Tryz.f85, by kernel_rfl, by kernel_rfl, by kernel_rfl⟩, Tryz.f85, by kernel_rfl, ok85⟩
theorem en86 : Form 86 fn86 := ⟨⟨Tryz.f86, by kernel_rfl, by kernel_rfl, by kernel_rfl⟩, Tryz.f86, by kernel_rfl, ok86⟩
theorem en87 : Form 87 fn87 := ⟨⟨Tryz.f87, by kernel_rfl, by kernel_rfl, by kernel_rfl⟩, Tryz.f87, by kernel_rfl, ok87⟩
theorem en89 : Form 89 fn89 := ⟨⟨Tryz.f89, by kernel_rfl, by kernel_rfl, by kernel_rfl⟩, Tryz.f89, by kernel_rfl, ok89⟩
theorem en93 : Form 93 fn93 := ⟨⟨Tryz.f93, by kernel_rfl, by kernel_rfl, by kernel_rfl⟩, Tryz.f93, by kernel_rfl, ok93⟩
theorem en94 : Form 94 fn94 := ⟨⟨Tryz.f94, by kernel_rfl, by kernel_rfl, by kernel_rfl⟩, Tryz.f94, by kernel_rfl, ok94⟩
theorem en107 : Form 107 fn107 := ⟨⟨Tryz.f107, by kernel_rfl, by kernel_rfl, by kernel_rfl⟩, Tryz.f107, by kernel_rfl, ok107⟩
theorem en109 : Form 109 fn109 := ⟨⟨Tryz.f109, by kernel_rfl, by kernel_rfl, by kernel_rfl⟩, Tryz.f109, by kernel_rfl, ok109⟩
theorem en111 : Form 111 fn111 := ⟨⟨Tryz.f111, by kernel_rfl, by kernel_rfl, by kernel_rfl⟩, Tryz.f111, by kernel_rfl, ok111⟩
theorem en115 : Form 115 fn115 := ⟨⟨Tryz.f115, by kernel_rfl, by kernel_rfl, by kernel_rfl⟩, Tryz.f115, by kernel_rfl, ok115⟩
theorem en116 : Form 116 fn116 := ⟨⟨Tryz.f116, by kernel_rfl, by kernel_rfl, by kernel_rfl⟩, Tryz.f116, by kernel_rfl, ok116⟩
theorem en117 : Form 117 fn117 := ⟨⟨Tryz.f117, by kernel_rfl, by kernel_rfl, by kernel_rfl⟩, Tryz.f117, by kernel_rfl, ok117⟩
theorem en118 : Form 118 fn118 := ⟨⟨Tryz.f118, by kernel_rfl, by kernel_rfl, by kernel_rfl⟩, Tryz.f118, by kernel_rfl, ok118⟩
theorem en135 : Form 135 fn135 := ⟨⟨Tryz.f135, by kernel_rfl, by kernel_rfl, by kernel_rfl⟩, Tryz.f135, by kernel_rfl, ok135⟩
theorem en136 : Form 136 fn136 := ⟨⟨Tryz.f136, by kernel_rfl, by kernel_rfl, by kernel_rfl⟩, Tryz.f136, by kernel_rfl, ok136⟩
theorem en148 : Form 148 fn148 := ⟨⟨Tryz.f148, by kernel_rfl, by kernel_rfl, by kernel_rfl⟩, Tryz.f148, by kernel_rfl, ok148⟩
theorem en149 : Form 149 fn149 := ⟨⟨Tryz.f149, by kernel_rfl, by kernel_rfl, by kernel_rfl⟩, Tryz.f149, by kernel_rfl, ok149⟩
theorem en150 : Form 150 fn150 := ⟨⟨Tryz.f150, by kernel_rfl, by kernel_rfl, by kernel_rfl⟩, Tryz.f150, by kernel_rfl, ok150⟩
theorem en168 : Form 168 fn168 := ⟨⟨Tryz.f168, by kernel_rfl, by kernel_rfl, by kernel_rfl⟩, Tryz.f168, by kernel_rfl, ok168⟩
theorem fnsA_ok (f : FuncId) (F : Fn) (h : fnsA f = some F) : Form f F := by
  unfold fnsA at h
  split at h
  · cases h; exact en19
  · cases h; exact en20
  · cases h; exact en33
  · cases h; exact en53
  · cases h; exact en54
  · cases h; exact en56
  · cases h; exact en58
  · cases h; exact en61
  · cases h; exact en70
  · cases h; exact en83
  · cases h; exact en85
  · cases h; exact en86
  · cases h; exact en87
  · cases h; exact en89
  · cases h; exact en93
  · cases h; exact en94
  · cases h; exact en107
  · cases h; exact en109
  · cases h; exact en111
  · cases h; exact en115
  · cases h; exact en116
  · cases h; exact en117
  · cases h; exact en118
  · cases h; exact en135
  · cases h; exact en136
  · cases h; exact en148
  · cases h; exact en149
  · cases h; exact en150
  · cases h; exact en168
  · cases h
end Mini
end Go.Proofs.YtgjlofpfbhioaaaGreatDoor
