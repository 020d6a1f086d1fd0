/-
  Each form belongs to its function. Printed by a program of ours (tools/mkk5.py).
-/
import Derived.Test.YtmcgaakbkgdljaaGreatDoorMiniG
import Derived.Test.YtmcgaakbkgdljaaGreatDoorMiniE24
namespace Go.Proofs.YtmcgaakbkgdljaaGreatDoor
namespace Mini
open Go
def Form (f : FuncId) (F : Fn) : Prop := Enters Tryz.prog f ∧ ∃ fn, Tryz.prog.funcs[f]? = some fn ∧ okFn Tryz.prog F fn = true
def AllForms : List (FuncId × Fn) → Prop
  | [] => True
  | p :: ps => Form p.1 p.2 ∧ AllForms ps
theorem lookup_form {f : FuncId} {F : Fn} : ∀ {l : List (FuncId × Fn)}, AllForms l → l.lookup f = some F → Form f F
  | [], _, h => by simp at h
  | (k, G) :: l, ha, h => by
    rw [List.lookup_cons] at h
    split at h
    · rename_i e
      have e' : f = k := by simpa using e
      cases h
      rw [e']
      exact ha.1
    · exact lookup_form ha.2 h
theorem en3 : Form 3 fn3 := ⟨⟨Tryz.f3, by kernel_rfl, by kernel_rfl, by kernel_rfl⟩, Tryz.f3, by kernel_rfl, ok3⟩
theorem en5 : Form 5 fn5 := ⟨⟨Tryz.f5, by kernel_rfl, by kernel_rfl, by kernel_rfl⟩, Tryz.f5, by kernel_rfl, ok5⟩
theorem en6 : Form 6 fn6 := ⟨⟨Tryz.f6, by kernel_rfl, by kernel_rfl, by kernel_rfl⟩, Tryz.f6, by kernel_rfl, ok6⟩
theorem en11 : Form 11 fn11 := ⟨⟨Tryz.f11, by kernel_rfl, by kernel_rfl, by kernel_rfl⟩, Tryz.f11, by kernel_rfl, ok11⟩
theorem en12 : Form 12 fn12 := ⟨⟨Tryz.f12, by kernel_rfl, by kernel_rfl, by kernel_rfl⟩, Tryz.f12, by kernel_rfl, ok12⟩
theorem en13 : Form 13 fn13 := ⟨⟨Tryz.f13, by kernel_rfl, by kernel_rfl, by kernel_rfl⟩, Tryz.f13, by kernel_rfl, ok13⟩
theorem en14 : Form 14 fn14 := ⟨⟨Tryz.f14, by kernel_rfl, by kernel_rfl, by kernel_rfl⟩, Tryz.f14, by kernel_rfl, ok14⟩
theorem en16 : Form 16 fn16 := ⟨⟨Tryz.f16, by kernel_rfl, by kernel_rfl, by kernel_rfl⟩, Tryz.f16, by kernel_rfl, ok16⟩
theorem en19 : Form 19 fn19 := ⟨⟨Tryz.f19, by kernel_rfl, by kernel_rfl, by kernel_rfl⟩, Tryz.f19, by kernel_rfl, ok19⟩
theorem en29 : Form 29 fn29 := ⟨⟨Tryz.f29, by kernel_rfl, by kernel_rfl, by kernel_rfl⟩, Tryz.f29, by kernel_rfl, ok29⟩
theorem en30 : Form 30 fn30 := ⟨⟨Tryz.f30, by kernel_rfl, by kernel_rfl, by kernel_rfl⟩, Tryz.f30, by kernel_rfl, ok30⟩
theorem en33 : Form 33 fn33 := ⟨⟨Tryz.f33, by kernel_rfl, by kernel_rfl, by kernel_rfl⟩, Tryz.f33, by kernel_rfl, ok33⟩
theorem en35 : Form 35 fn35 := ⟨⟨Tryz.f35, by kernel_rfl, by kernel_rfl, by kernel_rfl⟩, Tryz.f35, by kernel_rfl, ok35⟩
theorem en36 : Form 36 fn36 := ⟨⟨Tryz.f36, by kernel_rfl, by kernel_rfl, by kernel_rfl⟩, Tryz.f36, by kernel_rfl, ok36⟩
theorem en58 : Form 58 fn58 := ⟨⟨Tryz.f58, by kernel_rfl, by kernel_rfl, by kernel_rfl⟩, Tryz.f58, by kernel_rfl, ok58⟩
theorem en65 : Form 65 fn65 := ⟨⟨Tryz.f65, by kernel_rfl, by kernel_rfl, by kernel_rfl⟩, Tryz.f65, by kernel_rfl, ok65⟩
theorem en66 : Form 66 fn66 := ⟨⟨Tryz.f66, by kernel_rfl, by kernel_rfl, by kernel_rfl⟩, Tryz.f66, by kernel_rfl, ok66⟩
theorem en67 : Form 67 fn67 := ⟨⟨Tryz.f67, by kernel_rfl, by kernel_rfl, by kernel_rfl⟩, Tryz.f67, by kernel_rfl, ok67⟩
theorem en68 : Form 68 fn68 := ⟨⟨Tryz.f68, by kernel_rfl, by kernel_rfl, by kernel_rfl⟩, Tryz.f68, by kernel_rfl, ok68⟩
theorem en69 : Form 69 fn69 := ⟨⟨Tryz.f69, by kernel_rfl, by kernel_rfl, by kernel_rfl⟩, Tryz.f69, by kernel_rfl, ok69⟩
theorem en70 : Form 70 fn70 := ⟨⟨Tryz.f70, by kernel_rfl, by kernel_rfl, by kernel_rfl⟩, Tryz.f70, by kernel_rfl, ok70⟩
theorem en72 : Form 72 fn72 := ⟨⟨Tryz.f72, by kernel_rfl, by kernel_rfl, by kernel_rfl⟩, Tryz.f72, by kernel_rfl, ok72⟩
theorem en73 : Form 73 fn73 := ⟨⟨Tryz.f73, by kernel_rfl, by kernel_rfl, by kernel_rfl⟩, Tryz.f73, by kernel_rfl, ok73⟩
theorem en74 : Form 74 fn74 := ⟨⟨Tryz.f74, by kernel_rfl, by kernel_rfl, by kernel_rfl⟩, Tryz.f74, by kernel_rfl, ok74⟩
theorem en79 : Form 79 fn79 := ⟨⟨Tryz.f79, by kernel_rfl, by kernel_rfl, by kernel_rfl⟩, Tryz.f79, by kernel_rfl, ok79⟩
theorem en84 : Form 84 fn84 := ⟨⟨Tryz.f84, by kernel_rfl, by kernel_rfl, by kernel_rfl⟩, Tryz.f84, by kernel_rfl, ok84⟩
theorem en85 : Form 85 fn85 := ⟨⟨Tryz.f85, by kernel_rfl, by kernel_rfl, by kernel_rfl⟩, Tryz.f85, by kernel_rfl, ok85⟩
theorem en86 : Form 86 fn86 := ⟨⟨Tryz.f86, by kernel_rfl, by kernel_rfl, by kernel_rfl⟩, Tryz.f86, by kernel_rfl, ok86⟩
theorem en87 : Form 87 fn87 := ⟨⟨Tryz.f87, by kernel_rfl, by kernel_rfl, by kernel_rfl⟩, Tryz.f87, by kernel_rfl, ok87⟩
theorem en91 : Form 91 fn91 := ⟨⟨Tryz.f91, by kernel_rfl, by kernel_rfl, by kernel_rfl⟩, Tryz.f91, by kernel_rfl, ok91⟩
theorem en93 : Form 93 fn93 := ⟨⟨Tryz.f93, by kernel_rfl, by kernel_rfl, by kernel_rfl⟩, Tryz.f93, by kernel_rfl, ok93⟩
theorem en95 : Form 95 fn95 := ⟨⟨Tryz.f95, by kernel_rfl, by kernel_rfl, by kernel_rfl⟩, Tryz.f95, by kernel_rfl, ok95⟩
theorem en96 : Form 96 fn96 := ⟨⟨Tryz.f96, by kernel_rfl, by kernel_rfl, by kernel_rfl⟩, Tryz.f96, by kernel_rfl, ok96⟩
theorem en98 : Form 98 fn98 := ⟨⟨Tryz.f98, by kernel_rfl, by kernel_rfl, by kernel_rfl⟩, Tryz.f98, by kernel_rfl, ok98⟩
theorem en100 : Form 100 fn100 := ⟨⟨Tryz.f100, by kernel_rfl, by kernel_rfl, by kernel_rfl⟩, Tryz.f100, by kernel_rfl, ok100⟩
theorem en101 : Form 101 fn101 := ⟨⟨Tryz.f101, by kernel_rfl, by kernel_rfl, by kernel_rfl⟩, Tryz.f101, by kernel_rfl, ok101⟩
theorem en105 : Form 105 fn105 := ⟨⟨Tryz.f105, by kernel_rfl, by kernel_rfl, by kernel_rfl⟩, Tryz.f105, by kernel_rfl, ok105⟩
theorem en107 : Form 107 fn107 := ⟨⟨Tryz.f107, by kernel_rfl, by kernel_rfl, by kernel_rfl⟩, Tryz.f107, by kernel_rfl, ok107⟩
theorem en108 : Form 108 fn108 := ⟨⟨Tryz.f108, by kernel_rfl, by kernel_rfl, by kernel_rfl⟩, Tryz.f108, by kernel_rfl, ok108⟩
theorem en109 : Form 109 fn109 := ⟨⟨Tryz.f109, by kernel_rfl, by kernel_rfl, by kernel_rfl⟩, Tryz.f109, by kernel_rfl, ok109⟩
theorem en116 : Form 116 fn116 := ⟨⟨Tryz.f116, by kernel_rfl, by kernel_rfl, by kernel_rfl⟩, Tryz.f116, by kernel_rfl, ok116⟩
theorem en214 : Form 214 fn214 := ⟨⟨Tryz.f214, by kernel_rfl, by kernel_rfl, by kernel_rfl⟩, Tryz.f214, by kernel_rfl, ok214⟩
theorem en215 : Form 215 fn215 := ⟨⟨Tryz.f215, by kernel_rfl, by kernel_rfl, by kernel_rfl⟩, Tryz.f215, by kernel_rfl, ok215⟩
theorem en216 : Form 216 fn216 := ⟨⟨Tryz.f216, by kernel_rfl, by kernel_rfl, by kernel_rfl⟩, Tryz.f216, by kernel_rfl, ok216⟩
theorem en217 : Form 217 fn217 := ⟨⟨Tryz.f217, by kernel_rfl, by kernel_rfl, by kernel_rfl⟩, Tryz.f217, by kernel_rfl, ok217⟩
theorem en218 : Form 218 fn218 := ⟨⟨Tryz.f218, by kernel_rfl, by kernel_rfl, by kernel_rfl⟩, Tryz.f218, by kernel_rfl, ok218⟩
theorem en220 : Form 220 fn220 := ⟨⟨Tryz.f220, by kernel_rfl, by kernel_rfl, by kernel_rfl⟩, Tryz.f220, by kernel_rfl, ok220⟩
theorem en221 : Form 221 fn221 := ⟨⟨Tryz.f221, by kernel_rfl, by kernel_rfl, by kernel_rfl⟩, Tryz.f221, by kernel_rfl, ok221⟩
theorem en222 : Form 222 fn222 := ⟨⟨Tryz.f222, by kernel_rfl, by kernel_rfl, by kernel_rfl⟩, Tryz.f222, by kernel_rfl, ok222⟩
theorem en223 : Form 223 fn223 := ⟨⟨Tryz.f223, by kernel_rfl, by kernel_rfl, by kernel_rfl⟩, Tryz.f223, by kernel_rfl, ok223⟩
theorem en224 : Form 224 fn224 := ⟨⟨Tryz.f224, by kernel_rfl, by kernel_rfl, by kernel_rfl⟩, Tryz.f224, by kernel_rfl, ok224⟩
theorem en225 : Form 225 fn225 := ⟨⟨Tryz.f225, by kernel_rfl, by kernel_rfl, by kernel_rfl⟩, Tryz.f225, by kernel_rfl, ok225⟩
theorem en226 : Form 226 fn226 := ⟨⟨Tryz.f226, by kernel_rfl, by kernel_rfl, by kernel_rfl⟩, Tryz.f226, by kernel_rfl, ok226⟩
theorem en227 : Form 227 fn227 := ⟨⟨Tryz.f227, by kernel_rfl, by kernel_rfl, by kernel_rfl⟩, Tryz.f227, by kernel_rfl, ok227⟩
theorem en228 : Form 228 fn228 := ⟨⟨Tryz.f228, by kernel_rfl, by kernel_rfl, by kernel_rfl⟩, Tryz.f228, by kernel_rfl, ok228⟩
theorem en229 : Form 229 fn229 := ⟨⟨Tryz.f229, by kernel_rfl, by kernel_rfl, by kernel_rfl⟩, Tryz.f229, by kernel_rfl, ok229⟩
theorem en230 : Form 230 fn230 := ⟨⟨Tryz.f230, by kernel_rfl, by kernel_rfl, by kernel_rfl⟩, Tryz.f230, by kernel_rfl, ok230⟩
theorem en231 : Form 231 fn231 := ⟨⟨Tryz.f231, by kernel_rfl, by kernel_rfl, by kernel_rfl⟩, Tryz.f231, by kernel_rfl, ok231⟩
theorem en232 : Form 232 fn232 := ⟨⟨Tryz.f232, by kernel_rfl, by kernel_rfl, by kernel_rfl⟩, Tryz.f232, by kernel_rfl, ok232⟩
theorem en233 : Form 233 fn233 := ⟨⟨Tryz.f233, by kernel_rfl, by kernel_rfl, by kernel_rfl⟩, Tryz.f233, by kernel_rfl, ok233⟩
theorem en234 : Form 234 fn234 := ⟨⟨Tryz.f234, by kernel_rfl, by kernel_rfl, by kernel_rfl⟩, Tryz.f234, by kernel_rfl, ok234⟩
theorem en235 : Form 235 fn235 := ⟨⟨Tryz.f235, by kernel_rfl, by kernel_rfl, by kernel_rfl⟩, Tryz.f235, by kernel_rfl, ok235⟩
theorem en236 : Form 236 fn236 := ⟨⟨Tryz.f236, by kernel_rfl, by kernel_rfl, by kernel_rfl⟩, Tryz.f236, by kernel_rfl, ok236⟩
theorem en237 : Form 237 fn237 := ⟨⟨Tryz.f237, by kernel_rfl, by kernel_rfl, by kernel_rfl⟩, Tryz.f237, by kernel_rfl, ok237⟩
theorem en238 : Form 238 fn238 := ⟨⟨Tryz.f238, by kernel_rfl, by kernel_rfl, by kernel_rfl⟩, Tryz.f238, by kernel_rfl, ok238⟩
theorem en246 : Form 246 fn246 := ⟨⟨Tryz.f246, by kernel_rfl, by kernel_rfl, by kernel_rfl⟩, Tryz.f246, by kernel_rfl, ok246⟩
theorem en249 : Form 249 fn249 := ⟨⟨Tryz.f249, by kernel_rfl, by kernel_rfl, by kernel_rfl⟩, Tryz.f249, by kernel_rfl, ok249⟩
theorem en250 : Form 250 fn250 := ⟨⟨Tryz.f250, by kernel_rfl, by kernel_rfl, by kernel_rfl⟩, Tryz.f250, by kernel_rfl, ok250⟩
theorem en251 : Form 251 fn251 := ⟨⟨Tryz.f251, by kernel_rfl, by kernel_rfl, by kernel_rfl⟩, Tryz.f251, by kernel_rfl, ok251⟩
theorem en252 : Form 252 fn252 := ⟨⟨Tryz.f252, by kernel_rfl, by kernel_rfl, by kernel_rfl⟩, Tryz.f252, by kernel_rfl, ok252⟩
theorem en253 : Form 253 fn253 := ⟨⟨Tryz.f253, by kernel_rfl, by kernel_rfl, by kernel_rfl⟩, Tryz.f253, by kernel_rfl, ok253⟩
theorem en254 : Form 254 fn254 := ⟨⟨Tryz.f254, by kernel_rfl, by kernel_rfl, by kernel_rfl⟩, Tryz.f254, by kernel_rfl, ok254⟩
theorem en255 : Form 255 fn255 := ⟨⟨Tryz.f255, by kernel_rfl, by kernel_rfl, by kernel_rfl⟩, Tryz.f255, by kernel_rfl, ok255⟩
theorem en256 : Form 256 fn256 := ⟨⟨Tryz.f256, by kernel_rfl, by kernel_rfl, by kernel_rfl⟩, Tryz.f256, by kernel_rfl, ok256⟩
theorem en257 : Form 257 fn257 := ⟨⟨Tryz.f257, by kernel_rfl, by kernel_rfl, by kernel_rfl⟩, Tryz.f257, by kernel_rfl, ok257⟩
theorem en258 : Form 258 fn258 := ⟨⟨Tryz.f258, by kernel_rfl, by kernel_rfl, by kernel_rfl⟩, Tryz.f258, by kernel_rfl, ok258⟩
theorem en260 : Form 260 fn260 := ⟨⟨Tryz.f260, by kernel_rfl, by kernel_rfl, by kernel_rfl⟩, Tryz.f260, by kernel_rfl, ok260⟩
theorem en262 : Form 262 fn262 := ⟨⟨Tryz.f262, by kernel_rfl, by kernel_rfl, by kernel_rfl⟩, Tryz.f262, by kernel_rfl, ok262⟩
theorem en263 : Form 263 fn263 := ⟨⟨Tryz.f263, by kernel_rfl, by kernel_rfl, by kernel_rfl⟩, Tryz.f263, by kernel_rfl, ok263⟩
theorem en264 : Form 264 fn264 := ⟨⟨Tryz.f264, by kernel_rfl, by kernel_rfl, by kernel_rfl⟩, Tryz.f264, by kernel_rfl, ok264⟩
theorem en268 : Form 268 fn268 := ⟨⟨Tryz.f268, by kernel_rfl, by kernel_rfl, by kernel_rfl⟩, Tryz.f268, by kernel_rfl, ok268⟩
theorem en269 : Form 269 fn269 := ⟨⟨Tryz.f269, by kernel_rfl, by kernel_rfl, by kernel_rfl⟩, Tryz.f269, by kernel_rfl, ok269⟩
theorem en270 : Form 270 fn270 := ⟨⟨Tryz.f270, by kernel_rfl, by kernel_rfl, by kernel_rfl⟩, Tryz.f270, by kernel_rfl, ok270⟩
theorem en279 : Form 279 fn279 := ⟨⟨Tryz.f279, by kernel_rfl, by kernel_rfl, by kernel_rfl⟩, Tryz.f279, by kernel_rfl, ok279⟩
theorem en280 : Form 280 fn280 := ⟨⟨Tryz.f280, by kernel_rfl, by kernel_rfl, by kernel_rfl⟩, Tryz.f280, by kernel_rfl, ok280⟩
theorem en281 : Form 281 fn281 := ⟨⟨Tryz.f281, by kernel_rfl, by kernel_rfl, by kernel_rfl⟩, Tryz.f281, by kernel_rfl, ok281⟩
theorem en282 : Form 282 fn282 := ⟨⟨Tryz.f282, by kernel_rfl, by kernel_rfl, by kernel_rfl⟩, Tryz.f282, by kernel_rfl, ok282⟩
theorem en283 : Form 283 fn283 := ⟨⟨Tryz.f283, by kernel_rfl, by kernel_rfl, by kernel_rfl⟩, Tryz.f283, by kernel_rfl, ok283⟩
theorem en284 : Form 284 fn284 := ⟨⟨Tryz.f284, by kernel_rfl, by kernel_rfl, by kernel_rfl⟩, Tryz.f284, by kernel_rfl, ok284⟩
theorem en285 : Form 285 fn285 := ⟨⟨Tryz.f285, by kernel_rfl, by kernel_rfl, by kernel_rfl⟩, Tryz.f285, by kernel_rfl, ok285⟩
theorem en293 : Form 293 fn293 := ⟨⟨Tryz.f293, by kernel_rfl, by kernel_rfl, by kernel_rfl⟩, Tryz.f293, by kernel_rfl, ok293⟩
theorem en295 : Form 295 fn295 := ⟨⟨Tryz.f295, by kernel_rfl, by kernel_rfl, by kernel_rfl⟩, Tryz.f295, by kernel_rfl, ok295⟩
theorem en303 : Form 303 fn303 := ⟨⟨Tryz.f303, by kernel_rfl, by kernel_rfl, by kernel_rfl⟩, Tryz.f303, by kernel_rfl, ok303⟩
theorem en312 : Form 312 fn312 := ⟨⟨Tryz.f312, by kernel_rfl, by kernel_rfl, by kernel_rfl⟩, Tryz.f312, by kernel_rfl, ok312⟩
theorem en313 : Form 313 fn313 := ⟨⟨Tryz.f313, by kernel_rfl, by kernel_rfl, by kernel_rfl⟩, Tryz.f313, by kernel_rfl, ok313⟩
theorem en314 : Form 314 fn314 := ⟨⟨Tryz.f314, by kernel_rfl, by kernel_rfl, by kernel_rfl⟩, Tryz.f314, by kernel_rfl, ok314⟩
theorem en325 : Form 325 fn325 := ⟨⟨Tryz.f325, by kernel_rfl, by kernel_rfl, by kernel_rfl⟩, Tryz.f325, by kernel_rfl, ok325⟩
theorem en10 : Form 10 fn10 := ⟨⟨Tryz.f10, by kernel_rfl, by kernel_rfl, by kernel_rfl⟩, Tryz.f10, by kernel_rfl, ok10⟩
theorem en15 : Form 15 fn15 := ⟨⟨Tryz.f15, by kernel_rfl, by kernel_rfl, by kernel_rfl⟩, Tryz.f15, by kernel_rfl, ok15⟩
theorem en18 : Form 18 fn18 := ⟨⟨Tryz.f18, by kernel_rfl, by kernel_rfl, by kernel_rfl⟩, Tryz.f18, by kernel_rfl, ok18⟩
set_option maxRecDepth 100000 in
theorem tabC_ok : AllForms tabC := ⟨en3, en5, en6, en11, en12, en13, en14, en16, en19, en29, en30, en33, en35, en36, en58, en65, en66, en67, en68, en69, en70, en72, en73, en74, en79, en84, en85, en86, en87, en91, en93, en95, en96, en98, en100, en101, en105, en107, en108, en109, en116, en214, en215, en216, en217, en218, en220, en221, en222, en223, en224, en225, en226, en227, en228, en229, en230, en231, en232, en233, en234, en235, en236, en237, en238, en246, en249, en250, en251, en252, en253, en254, en255, en256, en257, en258, en260, en262, en263, en264, en268, en269, en270, en279, en280, en281, en282, en283, en284, en285, en293, en295, en303, en312, en313, en314, en325, trivial⟩
theorem fnsC_ok (f : FuncId) (F : Fn) (h : fnsC f = some F) : Form f F := lookup_form tabC_ok h
theorem tabCH_ok : AllForms tabCH := ⟨en10, en15, en18, trivial⟩
theorem fnsCH_ok (f : FuncId) (F : Fn) (h : fnsCH f = some F) : Form f F := lookup_form tabCH_ok h
end Mini
end Go.Proofs.YtmcgaakbkgdljaaGreatDoor
