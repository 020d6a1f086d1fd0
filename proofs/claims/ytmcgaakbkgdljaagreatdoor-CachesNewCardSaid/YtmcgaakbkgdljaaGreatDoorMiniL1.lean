/-
  slices.Delete at numbers, laid at this program.
-/
import Derived.Shelf.Slices.Delete
import Derived.Lib.RowBridge
import Derived.Test.YtmcgaakbkgdljaaGreatDoorProg
namespace Go.Proofs.YtmcgaakbkgdljaaGreatDoor
namespace Mini
open Go Go.Shelf Go.Proofs

def renD : Ren where
  f x := match x with
    | 23 => 34
    | n => n
  t x := match x with
    | 0 => 0
    | 3 => 3
    | 4 => 4
    | 22 => 40
    | n => n
  g x := x
theorem lays_n23 : Lays2.n23 Tryz.prog renD where
  mixed := by kernel_rfl
  f23 := by kernel_rfl
  t0 := by kernel_rfl
  a0 := fun _ => by kernel_rfl
  z0 := fun _ => by kernel_rfl
  v0 := fun _ => by kernel_rfl
  t3 := by kernel_rfl
  a3 := fun _ => by kernel_rfl
  z3 := fun _ => by kernel_rfl
  v3 := fun _ => by kernel_rfl
  t4 := by kernel_rfl
  a4 := fun _ => by kernel_rfl
  z4 := fun _ => by kernel_rfl
  v4 := fun _ => by kernel_rfl
  t22 := by kernel_rfl
  a22 := fun _ => by kernel_rfl
  z22 := fun _ => by kernel_rfl
  v22 := fun _ => by kernel_rfl
  i3 := by kernel_rfl
end Mini
end Go.Proofs.YtmcgaakbkgdljaaGreatDoor
