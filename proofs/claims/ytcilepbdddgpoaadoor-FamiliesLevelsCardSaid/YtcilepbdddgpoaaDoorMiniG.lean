/-
  Each form is that of its function: by the kernel. Printed by a program of ours (tools/mini.py).
-/
import Derived.Test.YtcilepbdddgpoaaDoorMiniC
import Derived.Test.YtcilepbdddgpoaaDoorMiniF
import Derived.Test.YtcilepbdddgpoaaDoorProg
import Derived.KernelRfl
namespace Go.Proofs.YtcilepbdddgpoaaDoor
namespace Mini
theorem ok3 : okFn Tryd.prog fn3 Tryd.f3 = true := by kernel_rfl
theorem ok4 : okFn Tryd.prog fn4 Tryd.f4 = true := by kernel_rfl
theorem ok5 : okFn Tryd.prog fn5 Tryd.f5 = true := by kernel_rfl
theorem ok6 : okFn Tryd.prog fn6 Tryd.f6 = true := by kernel_rfl
theorem ok7 : okFn Tryd.prog fn7 Tryd.f7 = true := by kernel_rfl
theorem ok8 : okFn Tryd.prog fn8 Tryd.f8 = true := by kernel_rfl
theorem ok9 : okFn Tryd.prog fn9 Tryd.f9 = true := by kernel_rfl
theorem ok10 : okFn Tryd.prog fn10 Tryd.f10 = true := by kernel_rfl
theorem ok11 : okFn Tryd.prog fn11 Tryd.f11 = true := by kernel_rfl
theorem ok12 : okFn Tryd.prog fn12 Tryd.f12 = true := by kernel_rfl
theorem ok13 : okFn Tryd.prog fn13 Tryd.f13 = true := by kernel_rfl
theorem ok14 : okFn Tryd.prog fn14 Tryd.f14 = true := by kernel_rfl
theorem ok15 : okFn Tryd.prog fn15 Tryd.f15 = true := by kernel_rfl
theorem ok16 : okFn Tryd.prog fn16 Tryd.f16 = true := by kernel_rfl
theorem ok17 : okFn Tryd.prog fn17 Tryd.f17 = true := by kernel_rfl
theorem ok18 : okFn Tryd.prog fn18 Tryd.f18 = true := by kernel_rfl
theorem ok19 : okFn Tryd.prog fn19 Tryd.f19 = true := by kernel_rfl
theorem ok20 : okFn Tryd.prog fn20 Tryd.f20 = true := by kernel_rfl
theorem ok21 : okFn Tryd.prog fn21 Tryd.f21 = true := by kernel_rfl
theorem ok22 : okFn Tryd.prog fn22 Tryd.f22 = true := by kernel_rfl
theorem ok23 : okFn Tryd.prog fn23 Tryd.f23 = true := by kernel_rfl
theorem ok24 : okFn Tryd.prog fn24 Tryd.f24 = true := by kernel_rfl
theorem ok25 : okFn Tryd.prog fn25 Tryd.f25 = true := by kernel_rfl
theorem ok26 : okFn Tryd.prog fn26 Tryd.f26 = true := by kernel_rfl
theorem ok27 : okFn Tryd.prog fn27 Tryd.f27 = true := by kernel_rfl
theorem ok28 : okFn Tryd.prog fn28 Tryd.f28 = true := by kernel_rfl
theorem ok29 : okFn Tryd.prog fn29 Tryd.f29 = true := by kernel_rfl
theorem ok30 : okFn Tryd.prog fn30 Tryd.f30 = true := by kernel_rfl
theorem ok31 : okFn Tryd.prog fn31 Tryd.f31 = true := by kernel_rfl
theorem ok32 : okFn Tryd.prog fn32 Tryd.f32 = true := by kernel_rfl
theorem ok33 : okFn Tryd.prog fn33 Tryd.f33 = true := by kernel_rfl
theorem ok34 : okFn Tryd.prog fn34 Tryd.f34 = true := by kernel_rfl
theorem ok35 : okFn Tryd.prog fn35 Tryd.f35 = true := by kernel_rfl
theorem ok36 : okFn Tryd.prog fn36 Tryd.f36 = true := by kernel_rfl
theorem ok37 : okFn Tryd.prog fn37 Tryd.f37 = true := by kernel_rfl
theorem ok38 : okFn Tryd.prog fn38 Tryd.f38 = true := by kernel_rfl
theorem ok39 : okFn Tryd.prog fn39 Tryd.f39 = true := by kernel_rfl
theorem ok40 : okFn Tryd.prog fn40 Tryd.f40 = true := by kernel_rfl
theorem ok41 : okFn Tryd.prog fn41 Tryd.f41 = true := by kernel_rfl
theorem ok42 : okFn Tryd.prog fn42 Tryd.f42 = true := by kernel_rfl
theorem ok43 : okFn Tryd.prog fn43 Tryd.f43 = true := by kernel_rfl
theorem ok44 : okFn Tryd.prog fn44 Tryd.f44 = true := by kernel_rfl
theorem ok45 : okFn Tryd.prog fn45 Tryd.f45 = true := by kernel_rfl
theorem ok47 : okFn Tryd.prog fn47 Tryd.f47 = true := by kernel_rfl
theorem ok48 : okFn Tryd.prog fn48 Tryd.f48 = true := by kernel_rfl
theorem ok49 : okFn Tryd.prog fn49 Tryd.f49 = true := by kernel_rfl
theorem ok50 : okFn Tryd.prog fn50 Tryd.f50 = true := by kernel_rfl
theorem ok51 : okFn Tryd.prog fn51 Tryd.f51 = true := by kernel_rfl
theorem ok55 : okFn Tryd.prog fn55 Tryd.f55 = true := by kernel_rfl
theorem ok56 : okFn Tryd.prog fn56 Tryd.f56 = true := by kernel_rfl
theorem ok57 : okFn Tryd.prog fn57 Tryd.f57 = true := by kernel_rfl
theorem ok58 : okFn Tryd.prog fn58 Tryd.f58 = true := by kernel_rfl
theorem ok59 : okFn Tryd.prog fn59 Tryd.f59 = true := by kernel_rfl
theorem ok60 : okFn Tryd.prog fn60 Tryd.f60 = true := by kernel_rfl
theorem ok61 : okFn Tryd.prog fn61 Tryd.f61 = true := by kernel_rfl
theorem ok66 : okFn Tryd.prog fn66 Tryd.f66 = true := by kernel_rfl
theorem ok67 : okFn Tryd.prog fn67 Tryd.f67 = true := by kernel_rfl
theorem ok68 : okFn Tryd.prog fn68 Tryd.f68 = true := by kernel_rfl
theorem ok69 : okFn Tryd.prog fn69 Tryd.f69 = true := by kernel_rfl
theorem ok70 : okFn Tryd.prog fn70 Tryd.f70 = true := by kernel_rfl
end Mini
end Go.Proofs.YtcilepbdddgpoaaDoor
