/-
  Each form belongs to its function. Printed by a program of ours (tools/mkk2.py).
-/
import Derived.Test.YtgjlofpfbhioaaaGreatDoorMiniG
import Derived.Test.YtgjlofpfbhioaaaGreatDoorMiniE20
namespace Go.Proofs.YtgjlofpfbhioaaaGreatDoor
namespace Mini
open Go
def Form (f : FuncId) (F : Fn) : Prop := Enters Tryz.prog f ∧ ∃ fn, Tryz.prog.funcs[f]? = some fn ∧ okFn Tryz.prog F fn = true
theorem en3 : Form 3 fn3 := ⟨⟨Tryz.f3, by kernel_rfl, by kernel_rfl, by kernel_rfl⟩, Tryz.f3, by kernel_rfl, ok3⟩
theorem en4 : Form 4 fn4 := ⟨⟨Tryz.f4, by kernel_rfl, by kernel_rfl, by kernel_rfl⟩, Tryz.f4, by kernel_rfl, ok4⟩
theorem en5 : Form 5 fn5 := ⟨⟨Tryz.f5, by kernel_rfl, by kernel_rfl, by kernel_rfl⟩, Tryz.f5, by kernel_rfl, ok5⟩
theorem en6 : Form 6 fn6 := ⟨⟨Tryz.f6, by kernel_rfl, by kernel_rfl, by kernel_rfl⟩, Tryz.f6, by kernel_rfl, ok6⟩
theorem en7 : Form 7 fn7 := ⟨⟨Tryz.f7, by kernel_rfl, by kernel_rfl, by kernel_rfl⟩, Tryz.f7, by kernel_rfl, ok7⟩
theorem en10 : Form 10 fn10 := ⟨⟨Tryz.f10, by kernel_rfl, by kernel_rfl, by kernel_rfl⟩, Tryz.f10, by kernel_rfl, ok10⟩
theorem en16 : Form 16 fn16 := ⟨⟨Tryz.f16, by kernel_rfl, by kernel_rfl, by kernel_rfl⟩, Tryz.f16, by kernel_rfl, ok16⟩
theorem en17 : Form 17 fn17 := ⟨⟨Tryz.f17, by kernel_rfl, by kernel_rfl, by kernel_rfl⟩, Tryz.f17, by kernel_rfl, ok17⟩
theorem en18 : Form 18 fn18 := ⟨⟨Tryz.f18, by kernel_rfl, by kernel_rfl, by kernel_rfl⟩, Tryz.f18, by kernel_rfl, ok18⟩
theorem en19 : Form 19 fn19 := ⟨⟨Tryz.f19, by kernel_rfl, by kernel_rfl, by kernel_rfl⟩, Tryz.f19, by kernel_rfl, ok19⟩
theorem en20 : Form 20 fn20 := ⟨⟨Tryz.f20, by kernel_rfl, by kernel_rfl, by kernel_rfl⟩, Tryz.f20, by kernel_rfl, ok20⟩
theorem en21 : Form 21 fn21 := ⟨⟨Tryz.f21, by kernel_rfl, by kernel_rfl, by kernel_rfl⟩, Tryz.f21, by kernel_rfl, ok21⟩
theorem en22 : Form 22 fn22 := ⟨⟨Tryz.f22, by kernel_rfl, by kernel_rfl, by kernel_rfl⟩, Tryz.f22, by kernel_rfl, ok22⟩
theorem en23 : Form 23 fn23 := ⟨⟨Tryz.f23, by kernel_rfl, by kernel_rfl, by kernel_rfl⟩, Tryz.f23, by kernel_rfl, ok23⟩
theorem en24 : Form 24 fn24 := ⟨⟨Tryz.f24, by kernel_rfl, by kernel_rfl, by kernel_rfl⟩, Tryz.f24, by kernel_rfl, ok24⟩
theorem en25 : Form 25 fn25 := ⟨⟨Tryz.f25, by kernel_rfl, by kernel_rfl, by kernel_rfl⟩, Tryz.f25, by kernel_rfl, ok25⟩
theorem en26 : Form 26 fn26 := ⟨⟨Tryz.f26, by kernel_rfl, by kernel_rfl, by kernel_rfl⟩, Tryz.f26, by kernel_rfl, ok26⟩
theorem en27 : Form 27 fn27 := ⟨⟨Tryz.f27, by kernel_rfl, by kernel_rfl, by kernel_rfl⟩, Tryz.f27, by kernel_rfl, ok27⟩
theorem en28 : Form 28 fn28 := ⟨⟨Tryz.f28, by kernel_rfl, by kernel_rfl, by kernel_rfl⟩, Tryz.f28, by kernel_rfl, ok28⟩
theorem en29 : Form 29 fn29 := ⟨⟨Tryz.f29, by kernel_rfl, by kernel_rfl, by kernel_rfl⟩, Tryz.f29, by kernel_rfl, ok29⟩
theorem en30 : Form 30 fn30 := ⟨⟨Tryz.f30, by kernel_rfl, by kernel_rfl, by kernel_rfl⟩, Tryz.f30, by kernel_rfl, ok30⟩
theorem en31 : Form 31 fn31 := ⟨⟨Tryz.f31, by kernel_rfl, by kernel_rfl, by kernel_rfl⟩, Tryz.f31, by kernel_rfl, ok31⟩
theorem en32 : Form 32 fn32 := ⟨⟨Tryz.f32, by kernel_rfl, by kernel_rfl, by kernel_rfl⟩, Tryz.f32, by kernel_rfl, ok32⟩
theorem en33 : Form 33 fn33 := ⟨⟨Tryz.f33, by kernel_rfl, by kernel_rfl, by kernel_rfl⟩, Tryz.f33, by kernel_rfl, ok33⟩
theorem en34 : Form 34 fn34 := ⟨⟨Tryz.f34, by kernel_rfl, by kernel_rfl, by kernel_rfl⟩, Tryz.f34, by kernel_rfl, ok34⟩
theorem en42 : Form 42 fn42 := ⟨⟨Tryz.f42, by kernel_rfl, by kernel_rfl, by kernel_rfl⟩, Tryz.f42, by kernel_rfl, ok42⟩
theorem en51 : Form 51 fn51 := ⟨⟨Tryz.f51, by kernel_rfl, by kernel_rfl, by kernel_rfl⟩, Tryz.f51, by kernel_rfl, ok51⟩
theorem en52 : Form 52 fn52 := ⟨⟨Tryz.f52, by kernel_rfl, by kernel_rfl, by kernel_rfl⟩, Tryz.f52, by kernel_rfl, ok52⟩
theorem en53 : Form 53 fn53 := ⟨⟨Tryz.f53, by kernel_rfl, by kernel_rfl, by kernel_rfl⟩, Tryz.f53, by kernel_rfl, ok53⟩
theorem en54 : Form 54 fn54 := ⟨⟨Tryz.f54, by kernel_rfl, by kernel_rfl, by kernel_rfl⟩, Tryz.f54, by kernel_rfl, ok54⟩
theorem en55 : Form 55 fn55 := ⟨⟨Tryz.f55, by kernel_rfl, by kernel_rfl, by kernel_rfl⟩, Tryz.f55, by kernel_rfl, ok55⟩
theorem en56 : Form 56 fn56 := ⟨⟨Tryz.f56, by kernel_rfl, by kernel_rfl, by kernel_rfl⟩, Tryz.f56, by kernel_rfl, ok56⟩
theorem en57 : Form 57 fn57 := ⟨⟨Tryz.f57, by kernel_rfl, by kernel_rfl, by kernel_rfl⟩, Tryz.f57, by kernel_rfl, ok57⟩
theorem en58 : Form 58 fn58 := ⟨⟨Tryz.f58, by kernel_rfl, by kernel_rfl, by kernel_rfl⟩, Tryz.f58, by kernel_rfl, ok58⟩
theorem en59 : Form 59 fn59 := ⟨⟨Tryz.f59, by kernel_rfl, by kernel_rfl, by kernel_rfl⟩, Tryz.f59, by kernel_rfl, ok59⟩
theorem en60 : Form 60 fn60 := ⟨⟨Tryz.f60, by kernel_rfl, by kernel_rfl, by kernel_rfl⟩, Tryz.f60, by kernel_rfl, ok60⟩
theorem en61 : Form 61 fn61 := ⟨⟨Tryz.f61, by kernel_rfl, by kernel_rfl, by kernel_rfl⟩, Tryz.f61, by kernel_rfl, ok61⟩
theorem en62 : Form 62 fn62 := ⟨⟨Tryz.f62, by kernel_rfl, by kernel_rfl, by kernel_rfl⟩, Tryz.f62, by kernel_rfl, ok62⟩
theorem en63 : Form 63 fn63 := ⟨⟨Tryz.f63, by kernel_rfl, by kernel_rfl, by kernel_rfl⟩, Tryz.f63, by kernel_rfl, ok63⟩
theorem en66 : Form 66 fn66 := ⟨⟨Tryz.f66, by kernel_rfl, by kernel_rfl, by kernel_rfl⟩, Tryz.f66, by kernel_rfl, ok66⟩
theorem en67 : Form 67 fn67 := ⟨⟨Tryz.f67, by kernel_rfl, by kernel_rfl, by kernel_rfl⟩, Tryz.f67, by kernel_rfl, ok67⟩
theorem en68 : Form 68 fn68 := ⟨⟨Tryz.f68, by kernel_rfl, by kernel_rfl, by kernel_rfl⟩, Tryz.f68, by kernel_rfl, ok68⟩
theorem en69 : Form 69 fn69 := ⟨⟨Tryz.f69, by kernel_rfl, by kernel_rfl, by kernel_rfl⟩, Tryz.f69, by kernel_rfl, ok69⟩
theorem en70 : Form 70 fn70 := ⟨⟨Tryz.f70, by kernel_rfl, by kernel_rfl, by kernel_rfl⟩, Tryz.f70, by kernel_rfl, ok70⟩
theorem en78 : Form 78 fn78 := ⟨⟨Tryz.f78, by kernel_rfl, by kernel_rfl, by kernel_rfl⟩, Tryz.f78, by kernel_rfl, ok78⟩
theorem en83 : Form 83 fn83 := ⟨⟨Tryz.f83, by kernel_rfl, by kernel_rfl, by kernel_rfl⟩, Tryz.f83, by kernel_rfl, ok83⟩
theorem en84 : Form 84 fn84 := ⟨⟨Tryz.f84, by kernel_rfl, by kernel_rfl, by kernel_rfl⟩, Tryz.f84, by kernel_rfl, ok84⟩
theorem en85 : Form 85 fn85 := ⟨⟨Tryz.f85, by kernel_rfl, by kernel_rfl, by kernel_rfl⟩, Tryz.f85, by kernel_rfl, ok85⟩
theorem en86 : Form 86 fn86 := ⟨⟨Tryz.f86, by kernel_rfl, by kernel_rfl, by kernel_rfl⟩, Tryz.f86, by kernel_rfl, ok86⟩
theorem en87 : Form 87 fn87 := ⟨⟨Tryz.f87, by kernel_rfl, by kernel_rfl, by kernel_rfl⟩, Tryz.f87, by kernel_rfl, ok87⟩
theorem en89 : Form 89 fn89 := ⟨⟨Tryz.f89, by kernel_rfl, by kernel_rfl, by kernel_rfl⟩, Tryz.f89, by kernel_rfl, ok89⟩
theorem en93 : Form 93 fn93 := ⟨⟨Tryz.f93, by kernel_rfl, by kernel_rfl, by kernel_rfl⟩, Tryz.f93, by kernel_rfl, ok93⟩
theorem en94 : Form 94 fn94 := ⟨⟨Tryz.f94, by kernel_rfl, by kernel_rfl, by kernel_rfl⟩, Tryz.f94, by kernel_rfl, ok94⟩
theorem en95 : Form 95 fn95 := ⟨⟨Tryz.f95, by kernel_rfl, by kernel_rfl, by kernel_rfl⟩, Tryz.f95, by kernel_rfl, ok95⟩
theorem en96 : Form 96 fn96 := ⟨⟨Tryz.f96, by kernel_rfl, by kernel_rfl, by kernel_rfl⟩, Tryz.f96, by kernel_rfl, ok96⟩
theorem en97 : Form 97 fn97 := ⟨⟨Tryz.f97, by kernel_rfl, by kernel_rfl, by kernel_rfl⟩, Tryz.f97, by kernel_rfl, ok97⟩
theorem en103 : Form 103 fn103 := ⟨⟨Tryz.f103, by kernel_rfl, by kernel_rfl, by kernel_rfl⟩, Tryz.f103, by kernel_rfl, ok103⟩
theorem en107 : Form 107 fn107 := ⟨⟨Tryz.f107, by kernel_rfl, by kernel_rfl, by kernel_rfl⟩, Tryz.f107, by kernel_rfl, ok107⟩
theorem en108 : Form 108 fn108 := ⟨⟨Tryz.f108, by kernel_rfl, by kernel_rfl, by kernel_rfl⟩, Tryz.f108, by kernel_rfl, ok108⟩
theorem en109 : Form 109 fn109 := ⟨⟨Tryz.f109, by kernel_rfl, by kernel_rfl, by kernel_rfl⟩, Tryz.f109, by kernel_rfl, ok109⟩
theorem en111 : Form 111 fn111 := ⟨⟨Tryz.f111, by kernel_rfl, by kernel_rfl, by kernel_rfl⟩, Tryz.f111, by kernel_rfl, ok111⟩
theorem en115 : Form 115 fn115 := ⟨⟨Tryz.f115, by kernel_rfl, by kernel_rfl, by kernel_rfl⟩, Tryz.f115, by kernel_rfl, ok115⟩
theorem en116 : Form 116 fn116 := ⟨⟨Tryz.f116, by kernel_rfl, by kernel_rfl, by kernel_rfl⟩, Tryz.f116, by kernel_rfl, ok116⟩
theorem en117 : Form 117 fn117 := ⟨⟨Tryz.f117, by kernel_rfl, by kernel_rfl, by kernel_rfl⟩, Tryz.f117, by kernel_rfl, ok117⟩
theorem en118 : Form 118 fn118 := ⟨⟨Tryz.f118, by kernel_rfl, by kernel_rfl, by kernel_rfl⟩, Tryz.f118, by kernel_rfl, ok118⟩
theorem en135 : Form 135 fn135 := ⟨⟨Tryz.f135, by kernel_rfl, by kernel_rfl, by kernel_rfl⟩, Tryz.f135, by kernel_rfl, ok135⟩
theorem en136 : Form 136 fn136 := ⟨⟨Tryz.f136, by kernel_rfl, by kernel_rfl, by kernel_rfl⟩, Tryz.f136, by kernel_rfl, ok136⟩
theorem en148 : Form 148 fn148 := ⟨⟨Tryz.f148, by kernel_rfl, by kernel_rfl, by kernel_rfl⟩, Tryz.f148, by kernel_rfl, ok148⟩
theorem en149 : Form 149 fn149 := ⟨⟨Tryz.f149, by kernel_rfl, by kernel_rfl, by kernel_rfl⟩, Tryz.f149, by kernel_rfl, ok149⟩
theorem en150 : Form 150 fn150 := ⟨⟨Tryz.f150, by kernel_rfl, by kernel_rfl, by kernel_rfl⟩, Tryz.f150, by kernel_rfl, ok150⟩
theorem en168 : Form 168 fn168 := ⟨⟨Tryz.f168, by kernel_rfl, by kernel_rfl, by kernel_rfl⟩, Tryz.f168, by kernel_rfl, ok168⟩
theorem fnsA_ok (f : FuncId) (F : Fn) (h : fnsA f = some F) : Form f F := by
  unfold fnsA at h
  split at h
  · cases h; exact en3
  · cases h; exact en4
  · cases h; exact en5
  · cases h; exact en6
  · cases h; exact en7
  · cases h; exact en10
  · cases h; exact en16
  · cases h; exact en17
  · cases h; exact en18
  · cases h; exact en19
  · cases h; exact en20
  · cases h; exact en21
  · cases h; exact en22
  · cases h; exact en23
  · cases h; exact en24
  · cases h; exact en25
  · cases h; exact en26
  · cases h; exact en27
  · cases h; exact en28
  · cases h; exact en29
  · cases h; exact en30
  · cases h; exact en31
  · cases h; exact en32
  · cases h; exact en33
  · cases h; exact en34
  · cases h; exact en42
  · cases h; exact en51
  · cases h; exact en52
  · cases h; exact en53
  · cases h; exact en54
  · cases h; exact en55
  · cases h; exact en56
  · cases h; exact en57
  · cases h; exact en58
  · cases h; exact en59
  · cases h; exact en60
  · cases h; exact en61
  · cases h; exact en62
  · cases h; exact en63
  · cases h; exact en66
  · cases h; exact en67
  · cases h; exact en68
  · cases h; exact en69
  · cases h; exact en70
  · cases h; exact en78
  · cases h; exact en83
  · cases h; exact en84
  · cases h; exact en85
  · cases h; exact en86
  · cases h; exact en87
  · cases h; exact en89
  · cases h; exact en93
  · cases h; exact en94
  · cases h; exact en95
  · cases h; exact en96
  · cases h; exact en97
  · cases h; exact en103
  · cases h; exact en107
  · cases h; exact en108
  · cases h; exact en109
  · cases h; exact en111
  · cases h; exact en115
  · cases h; exact en116
  · cases h; exact en117
  · cases h; exact en118
  · cases h; exact en135
  · cases h; exact en136
  · cases h; exact en148
  · cases h; exact en149
  · cases h; exact en150
  · cases h; exact en168
  · cases h
end Mini
end Go.Proofs.YtgjlofpfbhioaaaGreatDoor
