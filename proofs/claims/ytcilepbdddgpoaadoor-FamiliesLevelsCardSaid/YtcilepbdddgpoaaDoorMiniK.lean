/-
  Each form belongs to its function; the first context. Printed by a program of ours (tools/mkk.py).
-/
import Derived.Test.YtcilepbdddgpoaaDoorMiniG
import Derived.Test.YtcilepbdddgpoaaDoorMiniJ
namespace Go.Proofs.YtcilepbdddgpoaaDoor
namespace Mini
open Go
def Form (f : FuncId) (F : Fn) : Prop := Enters Tryd.prog f ∧ ∃ fn, Tryd.prog.funcs[f]? = some fn ∧ okFn Tryd.prog F fn = true
theorem en3 : Form 3 fn3 := ⟨⟨Tryd.f3, by kernel_rfl, by kernel_rfl, by kernel_rfl⟩, Tryd.f3, by kernel_rfl, ok3⟩
theorem en4 : Form 4 fn4 := ⟨⟨Tryd.f4, by kernel_rfl, by kernel_rfl, by kernel_rfl⟩, Tryd.f4, by kernel_rfl, ok4⟩
theorem en5 : Form 5 fn5 := ⟨⟨Tryd.f5, by kernel_rfl, by kernel_rfl, by kernel_rfl⟩, Tryd.f5, by kernel_rfl, ok5⟩
theorem en6 : Form 6 fn6 := ⟨⟨Tryd.f6, by kernel_rfl, by kernel_rfl, by kernel_rfl⟩, Tryd.f6, by kernel_rfl, ok6⟩
theorem en7 : Form 7 fn7 := ⟨⟨Tryd.f7, by kernel_rfl, by kernel_rfl, by kernel_rfl⟩, Tryd.f7, by kernel_rfl, ok7⟩
theorem en8 : Form 8 fn8 := ⟨⟨Tryd.f8, by kernel_rfl, by kernel_rfl, by kernel_rfl⟩, Tryd.f8, by kernel_rfl, ok8⟩
theorem en9 : Form 9 fn9 := ⟨⟨Tryd.f9, by kernel_rfl, by kernel_rfl, by kernel_rfl⟩, Tryd.f9, by kernel_rfl, ok9⟩
theorem en10 : Form 10 fn10 := ⟨⟨Tryd.f10, by kernel_rfl, by kernel_rfl, by kernel_rfl⟩, Tryd.f10, by kernel_rfl, ok10⟩
theorem en11 : Form 11 fn11 := ⟨⟨Tryd.f11, by kernel_rfl, by kernel_rfl, by kernel_rfl⟩, Tryd.f11, by kernel_rfl, ok11⟩
theorem en12 : Form 12 fn12 := ⟨⟨Tryd.f12, by kernel_rfl, by kernel_rfl, by kernel_rfl⟩, Tryd.f12, by kernel_rfl, ok12⟩
theorem en13 : Form 13 fn13 := ⟨⟨Tryd.f13, by kernel_rfl, by kernel_rfl, by kernel_rfl⟩, Tryd.f13, by kernel_rfl, ok13⟩
theorem en14 : Form 14 fn14 := ⟨⟨Tryd.f14, by kernel_rfl, by kernel_rfl, by kernel_rfl⟩, Tryd.f14, by kernel_rfl, ok14⟩
theorem en15 : Form 15 fn15 := ⟨⟨Tryd.f15, by kernel_rfl, by kernel_rfl, by kernel_rfl⟩, Tryd.f15, by kernel_rfl, ok15⟩
theorem en16 : Form 16 fn16 := ⟨⟨Tryd.f16, by kernel_rfl, by kernel_rfl, by kernel_rfl⟩, Tryd.f16, by kernel_rfl, ok16⟩
theorem en17 : Form 17 fn17 := ⟨⟨Tryd.f17, by kernel_rfl, by kernel_rfl, by kernel_rfl⟩, Tryd.f17, by kernel_rfl, ok17⟩
theorem en18 : Form 18 fn18 := ⟨⟨Tryd.f18, by kernel_rfl, by kernel_rfl, by kernel_rfl⟩, Tryd.f18, by kernel_rfl, ok18⟩
theorem en19 : Form 19 fn19 := ⟨⟨Tryd.f19, by kernel_rfl, by kernel_rfl, by kernel_rfl⟩, Tryd.f19, by kernel_rfl, ok19⟩
theorem en20 : Form 20 fn20 := ⟨⟨Tryd.f20, by kernel_rfl, by kernel_rfl, by kernel_rfl⟩, Tryd.f20, by kernel_rfl, ok20⟩
theorem en21 : Form 21 fn21 := ⟨⟨Tryd.f21, by kernel_rfl, by kernel_rfl, by kernel_rfl⟩, Tryd.f21, by kernel_rfl, ok21⟩
theorem en22 : Form 22 fn22 := ⟨⟨Tryd.f22, by kernel_rfl, by kernel_rfl, by kernel_rfl⟩, Tryd.f22, by kernel_rfl, ok22⟩
theorem en23 : Form 23 fn23 := ⟨⟨Tryd.f23, by kernel_rfl, by kernel_rfl, by kernel_rfl⟩, Tryd.f23, by kernel_rfl, ok23⟩
theorem en24 : Form 24 fn24 := ⟨⟨Tryd.f24, by kernel_rfl, by kernel_rfl, by kernel_rfl⟩, Tryd.f24, by kernel_rfl, ok24⟩
theorem en25 : Form 25 fn25 := ⟨⟨Tryd.f25, by kernel_rfl, by kernel_rfl, by kernel_rfl⟩, Tryd.f25, by kernel_rfl, ok25⟩
theorem en26 : Form 26 fn26 := ⟨⟨Tryd.f26, by kernel_rfl, by kernel_rfl, by kernel_rfl⟩, Tryd.f26, by kernel_rfl, ok26⟩
theorem en27 : Form 27 fn27 := ⟨⟨Tryd.f27, by kernel_rfl, by kernel_rfl, by kernel_rfl⟩, Tryd.f27, by kernel_rfl, ok27⟩
theorem en28 : Form 28 fn28 := ⟨⟨Tryd.f28, by kernel_rfl, by kernel_rfl, by kernel_rfl⟩, Tryd.f28, by kernel_rfl, ok28⟩
theorem en29 : Form 29 fn29 := ⟨⟨Tryd.f29, by kernel_rfl, by kernel_rfl, by kernel_rfl⟩, Tryd.f29, by kernel_rfl, ok29⟩
theorem en30 : Form 30 fn30 := ⟨⟨Tryd.f30, by kernel_rfl, by kernel_rfl, by kernel_rfl⟩, Tryd.f30, by kernel_rfl, ok30⟩
theorem en31 : Form 31 fn31 := ⟨⟨Tryd.f31, by kernel_rfl, by kernel_rfl, by kernel_rfl⟩, Tryd.f31, by kernel_rfl, ok31⟩
theorem en32 : Form 32 fn32 := ⟨⟨Tryd.f32, by kernel_rfl, by kernel_rfl, by kernel_rfl⟩, Tryd.f32, by kernel_rfl, ok32⟩
theorem en33 : Form 33 fn33 := ⟨⟨Tryd.f33, by kernel_rfl, by kernel_rfl, by kernel_rfl⟩, Tryd.f33, by kernel_rfl, ok33⟩
theorem en34 : Form 34 fn34 := ⟨⟨Tryd.f34, by kernel_rfl, by kernel_rfl, by kernel_rfl⟩, Tryd.f34, by kernel_rfl, ok34⟩
theorem en35 : Form 35 fn35 := ⟨⟨Tryd.f35, by kernel_rfl, by kernel_rfl, by kernel_rfl⟩, Tryd.f35, by kernel_rfl, ok35⟩
theorem en36 : Form 36 fn36 := ⟨⟨Tryd.f36, by kernel_rfl, by kernel_rfl, by kernel_rfl⟩, Tryd.f36, by kernel_rfl, ok36⟩
theorem en37 : Form 37 fn37 := ⟨⟨Tryd.f37, by kernel_rfl, by kernel_rfl, by kernel_rfl⟩, Tryd.f37, by kernel_rfl, ok37⟩
theorem en38 : Form 38 fn38 := ⟨⟨Tryd.f38, by kernel_rfl, by kernel_rfl, by kernel_rfl⟩, Tryd.f38, by kernel_rfl, ok38⟩
theorem en39 : Form 39 fn39 := ⟨⟨Tryd.f39, by kernel_rfl, by kernel_rfl, by kernel_rfl⟩, Tryd.f39, by kernel_rfl, ok39⟩
theorem en40 : Form 40 fn40 := ⟨⟨Tryd.f40, by kernel_rfl, by kernel_rfl, by kernel_rfl⟩, Tryd.f40, by kernel_rfl, ok40⟩
theorem en41 : Form 41 fn41 := ⟨⟨Tryd.f41, by kernel_rfl, by kernel_rfl, by kernel_rfl⟩, Tryd.f41, by kernel_rfl, ok41⟩
theorem en42 : Form 42 fn42 := ⟨⟨Tryd.f42, by kernel_rfl, by kernel_rfl, by kernel_rfl⟩, Tryd.f42, by kernel_rfl, ok42⟩
theorem en43 : Form 43 fn43 := ⟨⟨Tryd.f43, by kernel_rfl, by kernel_rfl, by kernel_rfl⟩, Tryd.f43, by kernel_rfl, ok43⟩
theorem en44 : Form 44 fn44 := ⟨⟨Tryd.f44, by kernel_rfl, by kernel_rfl, by kernel_rfl⟩, Tryd.f44, by kernel_rfl, ok44⟩
theorem en45 : Form 45 fn45 := ⟨⟨Tryd.f45, by kernel_rfl, by kernel_rfl, by kernel_rfl⟩, Tryd.f45, by kernel_rfl, ok45⟩
theorem en47 : Form 47 fn47 := ⟨⟨Tryd.f47, by kernel_rfl, by kernel_rfl, by kernel_rfl⟩, Tryd.f47, by kernel_rfl, ok47⟩
theorem en48 : Form 48 fn48 := ⟨⟨Tryd.f48, by kernel_rfl, by kernel_rfl, by kernel_rfl⟩, Tryd.f48, by kernel_rfl, ok48⟩
theorem en49 : Form 49 fn49 := ⟨⟨Tryd.f49, by kernel_rfl, by kernel_rfl, by kernel_rfl⟩, Tryd.f49, by kernel_rfl, ok49⟩
theorem en50 : Form 50 fn50 := ⟨⟨Tryd.f50, by kernel_rfl, by kernel_rfl, by kernel_rfl⟩, Tryd.f50, by kernel_rfl, ok50⟩
theorem en51 : Form 51 fn51 := ⟨⟨Tryd.f51, by kernel_rfl, by kernel_rfl, by kernel_rfl⟩, Tryd.f51, by kernel_rfl, ok51⟩
theorem en55 : Form 55 fn55 := ⟨⟨Tryd.f55, by kernel_rfl, by kernel_rfl, by kernel_rfl⟩, Tryd.f55, by kernel_rfl, ok55⟩
theorem en56 : Form 56 fn56 := ⟨⟨Tryd.f56, by kernel_rfl, by kernel_rfl, by kernel_rfl⟩, Tryd.f56, by kernel_rfl, ok56⟩
theorem en57 : Form 57 fn57 := ⟨⟨Tryd.f57, by kernel_rfl, by kernel_rfl, by kernel_rfl⟩, Tryd.f57, by kernel_rfl, ok57⟩
theorem en58 : Form 58 fn58 := ⟨⟨Tryd.f58, by kernel_rfl, by kernel_rfl, by kernel_rfl⟩, Tryd.f58, by kernel_rfl, ok58⟩
theorem en59 : Form 59 fn59 := ⟨⟨Tryd.f59, by kernel_rfl, by kernel_rfl, by kernel_rfl⟩, Tryd.f59, by kernel_rfl, ok59⟩
theorem en60 : Form 60 fn60 := ⟨⟨Tryd.f60, by kernel_rfl, by kernel_rfl, by kernel_rfl⟩, Tryd.f60, by kernel_rfl, ok60⟩
theorem en61 : Form 61 fn61 := ⟨⟨Tryd.f61, by kernel_rfl, by kernel_rfl, by kernel_rfl⟩, Tryd.f61, by kernel_rfl, ok61⟩
theorem en66 : Form 66 fn66 := ⟨⟨Tryd.f66, by kernel_rfl, by kernel_rfl, by kernel_rfl⟩, Tryd.f66, by kernel_rfl, ok66⟩
theorem en67 : Form 67 fn67 := ⟨⟨Tryd.f67, by kernel_rfl, by kernel_rfl, by kernel_rfl⟩, Tryd.f67, by kernel_rfl, ok67⟩
theorem en68 : Form 68 fn68 := ⟨⟨Tryd.f68, by kernel_rfl, by kernel_rfl, by kernel_rfl⟩, Tryd.f68, by kernel_rfl, ok68⟩
theorem en69 : Form 69 fn69 := ⟨⟨Tryd.f69, by kernel_rfl, by kernel_rfl, by kernel_rfl⟩, Tryd.f69, by kernel_rfl, ok69⟩
theorem en70 : Form 70 fn70 := ⟨⟨Tryd.f70, by kernel_rfl, by kernel_rfl, by kernel_rfl⟩, Tryd.f70, by kernel_rfl, ok70⟩
theorem fns_ok (f : FuncId) (F : Fn) (h : fns f = some F) : Form f F := by
  unfold fns at h
  split at h
  · cases h; exact en3
  · cases h; exact en4
  · cases h; exact en5
  · cases h; exact en6
  · cases h; exact en7
  · cases h; exact en8
  · cases h; exact en9
  · cases h; exact en10
  · cases h; exact en11
  · cases h; exact en12
  · cases h; exact en13
  · cases h; exact en14
  · cases h; exact en15
  · cases h; exact en16
  · cases h; exact en17
  · cases h; exact en18
  · cases h; exact en19
  · cases h; exact en20
  · cases h; exact en21
  · cases h; exact en22
  · cases h; exact en23
  · cases h; exact en24
  · cases h; exact en25
  · cases h; exact en26
  · cases h; exact en27
  · cases h; exact en28
  · cases h; exact en29
  · cases h; exact en30
  · cases h; exact en31
  · cases h; exact en32
  · cases h; exact en33
  · cases h; exact en34
  · cases h; exact en35
  · cases h; exact en36
  · cases h; exact en37
  · cases h; exact en38
  · cases h; exact en39
  · cases h; exact en40
  · cases h; exact en41
  · cases h; exact en42
  · cases h; exact en43
  · cases h; exact en44
  · cases h; exact en45
  · cases h; exact en47
  · cases h; exact en48
  · cases h; exact en49
  · cases h; exact en50
  · cases h; exact en51
  · cases h; exact en55
  · cases h; exact en56
  · cases h; exact en57
  · cases h; exact en58
  · cases h; exact en59
  · cases h; exact en60
  · cases h; exact en61
  · cases h; exact en66
  · cases h; exact en67
  · cases h; exact en68
  · cases h; exact en69
  · cases h; exact en70
  · cases h

def prim0 (f : FuncId) (vs : List V) : Option V := if f = 46 then joinV vs else none
def X0 : Ctx := ⟨fns, prim0, fun _ _ _ => none, fun _ => none⟩
theorem X0_ok : CtxOk Tryd.prog X0 := by
  refine ⟨fns_ok, fun f vs r h => ?_⟩
  simp only [X0, prim0] at h
  split at h
  · rename_i e
    subst e
    exact joinV_ok h
  · cases h
end Mini
end Go.Proofs.YtcilepbdddgpoaaDoor
