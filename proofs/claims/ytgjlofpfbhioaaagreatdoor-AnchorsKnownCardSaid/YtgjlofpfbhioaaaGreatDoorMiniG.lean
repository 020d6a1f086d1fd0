/-
  Each form is that of its function: by the kernel. Printed by a program of ours (tools/mini.py).
-/
import Derived.Test.YtgjlofpfbhioaaaGreatDoorMiniC
import Derived.Test.YtgjlofpfbhioaaaGreatDoorMiniF
import Derived.Test.YtgjlofpfbhioaaaGreatDoorProg
import Derived.KernelRfl
namespace Go.Proofs.YtgjlofpfbhioaaaGreatDoor
namespace Mini
theorem ok3 : okFn Tryz.prog fn3 Tryz.f3 = true := by kernel_rfl
theorem ok4 : okFn Tryz.prog fn4 Tryz.f4 = true := by kernel_rfl
theorem ok5 : okFn Tryz.prog fn5 Tryz.f5 = true := by kernel_rfl
theorem ok6 : okFn Tryz.prog fn6 Tryz.f6 = true := by kernel_rfl
theorem ok7 : okFn Tryz.prog fn7 Tryz.f7 = true := by kernel_rfl
theorem ok10 : okFn Tryz.prog fn10 Tryz.f10 = true := by kernel_rfl
theorem ok16 : okFn Tryz.prog fn16 Tryz.f16 = true := by kernel_rfl
theorem ok17 : okFn Tryz.prog fn17 Tryz.f17 = true := by kernel_rfl
theorem ok18 : okFn Tryz.prog fn18 Tryz.f18 = true := by kernel_rfl
theorem ok19 : okFn Tryz.prog fn19 Tryz.f19 = true := by kernel_rfl
theorem ok20 : okFn Tryz.prog fn20 Tryz.f20 = true := by kernel_rfl
theorem ok21 : okFn Tryz.prog fn21 Tryz.f21 = true := by kernel_rfl
theorem ok22 : okFn Tryz.prog fn22 Tryz.f22 = true := by kernel_rfl
theorem ok23 : okFn Tryz.prog fn23 Tryz.f23 = true := by kernel_rfl
theorem ok24 : okFn Tryz.prog fn24 Tryz.f24 = true := by kernel_rfl
theorem ok25 : okFn Tryz.prog fn25 Tryz.f25 = true := by kernel_rfl
theorem ok26 : okFn Tryz.prog fn26 Tryz.f26 = true := by kernel_rfl
theorem ok27 : okFn Tryz.prog fn27 Tryz.f27 = true := by kernel_rfl
theorem ok28 : okFn Tryz.prog fn28 Tryz.f28 = true := by kernel_rfl
theorem ok29 : okFn Tryz.prog fn29 Tryz.f29 = true := by kernel_rfl
theorem ok30 : okFn Tryz.prog fn30 Tryz.f30 = true := by kernel_rfl
theorem ok31 : okFn Tryz.prog fn31 Tryz.f31 = true := by kernel_rfl
theorem ok32 : okFn Tryz.prog fn32 Tryz.f32 = true := by kernel_rfl
theorem ok33 : okFn Tryz.prog fn33 Tryz.f33 = true := by kernel_rfl
theorem ok34 : okFn Tryz.prog fn34 Tryz.f34 = true := by kernel_rfl
theorem ok42 : okFn Tryz.prog fn42 Tryz.f42 = true := by kernel_rfl
theorem ok51 : okFn Tryz.prog fn51 Tryz.f51 = true := by kernel_rfl
theorem ok52 : okFn Tryz.prog fn52 Tryz.f52 = true := by kernel_rfl
theorem ok53 : okFn Tryz.prog fn53 Tryz.f53 = true := by kernel_rfl
theorem ok54 : okFn Tryz.prog fn54 Tryz.f54 = true := by kernel_rfl
theorem ok55 : okFn Tryz.prog fn55 Tryz.f55 = true := by kernel_rfl
theorem ok56 : okFn Tryz.prog fn56 Tryz.f56 = true := by kernel_rfl
theorem ok57 : okFn Tryz.prog fn57 Tryz.f57 = true := by kernel_rfl
theorem ok58 : okFn Tryz.prog fn58 Tryz.f58 = true := by kernel_rfl
theorem ok59 : okFn Tryz.prog fn59 Tryz.f59 = true := by kernel_rfl
theorem ok60 : okFn Tryz.prog fn60 Tryz.f60 = true := by kernel_rfl
theorem ok61 : okFn Tryz.prog fn61 Tryz.f61 = true := by kernel_rfl
theorem ok62 : okFn Tryz.prog fn62 Tryz.f62 = true := by kernel_rfl
theorem ok63 : okFn Tryz.prog fn63 Tryz.f63 = true := by kernel_rfl
theorem ok66 : okFn Tryz.prog fn66 Tryz.f66 = true := by kernel_rfl
theorem ok67 : okFn Tryz.prog fn67 Tryz.f67 = true := by kernel_rfl
theorem ok68 : okFn Tryz.prog fn68 Tryz.f68 = true := by kernel_rfl
theorem ok69 : okFn Tryz.prog fn69 Tryz.f69 = true := by kernel_rfl
theorem ok70 : okFn Tryz.prog fn70 Tryz.f70 = true := by kernel_rfl
theorem ok78 : okFn Tryz.prog fn78 Tryz.f78 = true := by kernel_rfl
theorem ok83 : okFn Tryz.prog fn83 Tryz.f83 = true := by kernel_rfl
theorem ok84 : okFn Tryz.prog fn84 Tryz.f84 = true := by kernel_rfl
theorem ok85 : okFn Tryz.prog fn85 Tryz.f85 = true := by kernel_rfl
theorem ok86 : okFn Tryz.prog fn86 Tryz.f86 = true := by kernel_rfl
theorem ok87 : okFn Tryz.prog fn87 Tryz.f87 = true := by kernel_rfl
theorem ok89 : okFn Tryz.prog fn89 Tryz.f89 = true := by kernel_rfl
theorem ok93 : okFn Tryz.prog fn93 Tryz.f93 = true := by kernel_rfl
theorem ok94 : okFn Tryz.prog fn94 Tryz.f94 = true := by kernel_rfl
theorem ok95 : okFn Tryz.prog fn95 Tryz.f95 = true := by kernel_rfl
theorem ok96 : okFn Tryz.prog fn96 Tryz.f96 = true := by kernel_rfl
theorem ok97 : okFn Tryz.prog fn97 Tryz.f97 = true := by kernel_rfl
theorem ok103 : okFn Tryz.prog fn103 Tryz.f103 = true := by kernel_rfl
theorem ok107 : okFn Tryz.prog fn107 Tryz.f107 = true := by kernel_rfl
theorem ok108 : okFn Tryz.prog fn108 Tryz.f108 = true := by kernel_rfl
theorem ok109 : okFn Tryz.prog fn109 Tryz.f109 = true := by kernel_rfl
theorem ok111 : okFn Tryz.prog fn111 Tryz.f111 = true := by kernel_rfl
theorem ok115 : okFn Tryz.prog fn115 Tryz.f115 = true := by kernel_rfl
theorem ok116 : okFn Tryz.prog fn116 Tryz.f116 = true := by kernel_rfl
theorem ok117 : okFn Tryz.prog fn117 Tryz.f117 = true := by kernel_rfl
theorem ok118 : okFn Tryz.prog fn118 Tryz.f118 = true := by kernel_rfl
theorem ok135 : okFn Tryz.prog fn135 Tryz.f135 = true := by kernel_rfl
theorem ok136 : okFn Tryz.prog fn136 Tryz.f136 = true := by kernel_rfl
theorem ok148 : okFn Tryz.prog fn148 Tryz.f148 = true := by kernel_rfl
theorem ok149 : okFn Tryz.prog fn149 Tryz.f149 = true := by kernel_rfl
theorem ok150 : okFn Tryz.prog fn150 Tryz.f150 = true := by kernel_rfl
theorem ok168 : okFn Tryz.prog fn168 Tryz.f168 = true := by kernel_rfl
end Mini
end Go.Proofs.YtgjlofpfbhioaaaGreatDoor
