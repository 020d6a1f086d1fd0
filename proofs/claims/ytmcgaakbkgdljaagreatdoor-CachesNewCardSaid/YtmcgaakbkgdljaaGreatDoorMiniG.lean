/-
  Each form is that of its function: by the kernel. Printed by a program of ours (tools/mini.py).
-/
import Derived.Test.YtmcgaakbkgdljaaGreatDoorMiniC
import Derived.Test.YtmcgaakbkgdljaaGreatDoorMiniF
import Derived.Test.YtmcgaakbkgdljaaGreatDoorProg
import Derived.KernelRfl
namespace Go.Proofs.YtmcgaakbkgdljaaGreatDoor
namespace Mini
theorem ok3 : okFn Tryz.prog fn3 Tryz.f3 = true := by kernel_rfl
theorem ok5 : okFn Tryz.prog fn5 Tryz.f5 = true := by kernel_rfl
theorem ok6 : okFn Tryz.prog fn6 Tryz.f6 = true := by kernel_rfl
theorem ok10 : okFn Tryz.prog fn10 Tryz.f10 = true := by kernel_rfl
theorem ok11 : okFn Tryz.prog fn11 Tryz.f11 = true := by kernel_rfl
theorem ok12 : okFn Tryz.prog fn12 Tryz.f12 = true := by kernel_rfl
theorem ok13 : okFn Tryz.prog fn13 Tryz.f13 = true := by kernel_rfl
theorem ok14 : okFn Tryz.prog fn14 Tryz.f14 = true := by kernel_rfl
theorem ok15 : okFn Tryz.prog fn15 Tryz.f15 = true := by kernel_rfl
theorem ok16 : okFn Tryz.prog fn16 Tryz.f16 = true := by kernel_rfl
theorem ok18 : okFn Tryz.prog fn18 Tryz.f18 = true := by kernel_rfl
theorem ok19 : okFn Tryz.prog fn19 Tryz.f19 = true := by kernel_rfl
theorem ok29 : okFn Tryz.prog fn29 Tryz.f29 = true := by kernel_rfl
theorem ok30 : okFn Tryz.prog fn30 Tryz.f30 = true := by kernel_rfl
theorem ok33 : okFn Tryz.prog fn33 Tryz.f33 = true := by kernel_rfl
theorem ok35 : okFn Tryz.prog fn35 Tryz.f35 = true := by kernel_rfl
theorem ok36 : okFn Tryz.prog fn36 Tryz.f36 = true := by kernel_rfl
theorem ok58 : okFn Tryz.prog fn58 Tryz.f58 = true := by kernel_rfl
theorem ok65 : okFn Tryz.prog fn65 Tryz.f65 = true := by kernel_rfl
theorem ok66 : okFn Tryz.prog fn66 Tryz.f66 = true := by kernel_rfl
theorem ok67 : okFn Tryz.prog fn67 Tryz.f67 = true := by kernel_rfl
theorem ok68 : okFn Tryz.prog fn68 Tryz.f68 = true := by kernel_rfl
theorem ok69 : okFn Tryz.prog fn69 Tryz.f69 = true := by kernel_rfl
theorem ok70 : okFn Tryz.prog fn70 Tryz.f70 = true := by kernel_rfl
theorem ok72 : okFn Tryz.prog fn72 Tryz.f72 = true := by kernel_rfl
theorem ok73 : okFn Tryz.prog fn73 Tryz.f73 = true := by kernel_rfl
theorem ok74 : okFn Tryz.prog fn74 Tryz.f74 = true := by kernel_rfl
theorem ok79 : okFn Tryz.prog fn79 Tryz.f79 = true := by kernel_rfl
theorem ok84 : okFn Tryz.prog fn84 Tryz.f84 = true := by kernel_rfl
theorem ok85 : okFn Tryz.prog fn85 Tryz.f85 = true := by kernel_rfl
theorem ok86 : okFn Tryz.prog fn86 Tryz.f86 = true := by kernel_rfl
theorem ok87 : okFn Tryz.prog fn87 Tryz.f87 = true := by kernel_rfl
theorem ok91 : okFn Tryz.prog fn91 Tryz.f91 = true := by kernel_rfl
theorem ok93 : okFn Tryz.prog fn93 Tryz.f93 = true := by kernel_rfl
theorem ok95 : okFn Tryz.prog fn95 Tryz.f95 = true := by kernel_rfl
theorem ok96 : okFn Tryz.prog fn96 Tryz.f96 = true := by kernel_rfl
theorem ok98 : okFn Tryz.prog fn98 Tryz.f98 = true := by kernel_rfl
theorem ok100 : okFn Tryz.prog fn100 Tryz.f100 = true := by kernel_rfl
theorem ok101 : okFn Tryz.prog fn101 Tryz.f101 = true := by kernel_rfl
theorem ok105 : okFn Tryz.prog fn105 Tryz.f105 = true := by kernel_rfl
theorem ok107 : okFn Tryz.prog fn107 Tryz.f107 = true := by kernel_rfl
theorem ok108 : okFn Tryz.prog fn108 Tryz.f108 = true := by kernel_rfl
theorem ok109 : okFn Tryz.prog fn109 Tryz.f109 = true := by kernel_rfl
theorem ok116 : okFn Tryz.prog fn116 Tryz.f116 = true := by kernel_rfl
theorem ok214 : okFn Tryz.prog fn214 Tryz.f214 = true := by kernel_rfl
theorem ok215 : okFn Tryz.prog fn215 Tryz.f215 = true := by kernel_rfl
theorem ok216 : okFn Tryz.prog fn216 Tryz.f216 = true := by kernel_rfl
theorem ok217 : okFn Tryz.prog fn217 Tryz.f217 = true := by kernel_rfl
theorem ok218 : okFn Tryz.prog fn218 Tryz.f218 = true := by kernel_rfl
theorem ok220 : okFn Tryz.prog fn220 Tryz.f220 = true := by kernel_rfl
theorem ok221 : okFn Tryz.prog fn221 Tryz.f221 = true := by kernel_rfl
theorem ok222 : okFn Tryz.prog fn222 Tryz.f222 = true := by kernel_rfl
theorem ok223 : okFn Tryz.prog fn223 Tryz.f223 = true := by kernel_rfl
theorem ok224 : okFn Tryz.prog fn224 Tryz.f224 = true := by kernel_rfl
theorem ok225 : okFn Tryz.prog fn225 Tryz.f225 = true := by kernel_rfl
theorem ok226 : okFn Tryz.prog fn226 Tryz.f226 = true := by kernel_rfl
theorem ok227 : okFn Tryz.prog fn227 Tryz.f227 = true := by kernel_rfl
theorem ok228 : okFn Tryz.prog fn228 Tryz.f228 = true := by kernel_rfl
theorem ok229 : okFn Tryz.prog fn229 Tryz.f229 = true := by kernel_rfl
theorem ok230 : okFn Tryz.prog fn230 Tryz.f230 = true := by kernel_rfl
theorem ok231 : okFn Tryz.prog fn231 Tryz.f231 = true := by kernel_rfl
theorem ok232 : okFn Tryz.prog fn232 Tryz.f232 = true := by kernel_rfl
theorem ok233 : okFn Tryz.prog fn233 Tryz.f233 = true := by kernel_rfl
theorem ok234 : okFn Tryz.prog fn234 Tryz.f234 = true := by kernel_rfl
theorem ok235 : okFn Tryz.prog fn235 Tryz.f235 = true := by kernel_rfl
theorem ok236 : okFn Tryz.prog fn236 Tryz.f236 = true := by kernel_rfl
theorem ok237 : okFn Tryz.prog fn237 Tryz.f237 = true := by kernel_rfl
theorem ok238 : okFn Tryz.prog fn238 Tryz.f238 = true := by kernel_rfl
theorem ok246 : okFn Tryz.prog fn246 Tryz.f246 = true := by kernel_rfl
theorem ok249 : okFn Tryz.prog fn249 Tryz.f249 = true := by kernel_rfl
theorem ok250 : okFn Tryz.prog fn250 Tryz.f250 = true := by kernel_rfl
theorem ok251 : okFn Tryz.prog fn251 Tryz.f251 = true := by kernel_rfl
theorem ok252 : okFn Tryz.prog fn252 Tryz.f252 = true := by kernel_rfl
theorem ok253 : okFn Tryz.prog fn253 Tryz.f253 = true := by kernel_rfl
theorem ok254 : okFn Tryz.prog fn254 Tryz.f254 = true := by kernel_rfl
theorem ok255 : okFn Tryz.prog fn255 Tryz.f255 = true := by kernel_rfl
theorem ok256 : okFn Tryz.prog fn256 Tryz.f256 = true := by kernel_rfl
theorem ok257 : okFn Tryz.prog fn257 Tryz.f257 = true := by kernel_rfl
theorem ok258 : okFn Tryz.prog fn258 Tryz.f258 = true := by kernel_rfl
theorem ok260 : okFn Tryz.prog fn260 Tryz.f260 = true := by kernel_rfl
theorem ok262 : okFn Tryz.prog fn262 Tryz.f262 = true := by kernel_rfl
theorem ok263 : okFn Tryz.prog fn263 Tryz.f263 = true := by kernel_rfl
theorem ok264 : okFn Tryz.prog fn264 Tryz.f264 = true := by kernel_rfl
theorem ok268 : okFn Tryz.prog fn268 Tryz.f268 = true := by kernel_rfl
theorem ok269 : okFn Tryz.prog fn269 Tryz.f269 = true := by kernel_rfl
theorem ok270 : okFn Tryz.prog fn270 Tryz.f270 = true := by kernel_rfl
theorem ok279 : okFn Tryz.prog fn279 Tryz.f279 = true := by kernel_rfl
theorem ok280 : okFn Tryz.prog fn280 Tryz.f280 = true := by kernel_rfl
theorem ok281 : okFn Tryz.prog fn281 Tryz.f281 = true := by kernel_rfl
theorem ok282 : okFn Tryz.prog fn282 Tryz.f282 = true := by kernel_rfl
theorem ok283 : okFn Tryz.prog fn283 Tryz.f283 = true := by kernel_rfl
theorem ok284 : okFn Tryz.prog fn284 Tryz.f284 = true := by kernel_rfl
theorem ok285 : okFn Tryz.prog fn285 Tryz.f285 = true := by kernel_rfl
theorem ok293 : okFn Tryz.prog fn293 Tryz.f293 = true := by kernel_rfl
theorem ok295 : okFn Tryz.prog fn295 Tryz.f295 = true := by kernel_rfl
theorem ok303 : okFn Tryz.prog fn303 Tryz.f303 = true := by kernel_rfl
theorem ok312 : okFn Tryz.prog fn312 Tryz.f312 = true := by kernel_rfl
theorem ok313 : okFn Tryz.prog fn313 Tryz.f313 = true := by kernel_rfl
theorem ok314 : okFn Tryz.prog fn314 Tryz.f314 = true := by kernel_rfl
theorem ok325 : okFn Tryz.prog fn325 Tryz.f325 = true := by kernel_rfl
end Mini
end Go.Proofs.YtmcgaakbkgdljaaGreatDoor
