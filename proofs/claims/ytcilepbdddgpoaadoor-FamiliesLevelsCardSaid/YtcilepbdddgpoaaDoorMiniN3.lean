/-
  Forms of functions, each loop by a name of its own. Printed by a program of ours (tools/mkloop.py).
-/
import Derived.Test.YtcilepbdddgpoaaDoorMiniN
namespace Go.Proofs.YtcilepbdddgpoaaDoor
namespace Mini

def fn66L0 : I := .seq (.seq (.reg false [⟨none, .mov (.r 4)⟩,
    ⟨none, .mov (.r 0)⟩,
    ⟨none, .len (.l 0)⟩,
    ⟨none, .bin .lss (.l 2) (.l 0)⟩] [(5, 0)] []) (
  .cond (.r 5) (
  .skip) (
  .exit 0))) (
  .seq (.block 1 (
  .seq (.reg true [⟨none, .mov (.r 0)⟩,
    ⟨none, .mov (.r 4)⟩,
    ⟨none, .ixa 17 (.l 1) (.l 0)⟩,
    ⟨none, .ld true 17 (.l 0)⟩,
    ⟨none, .ld true 17 (.r 2)⟩,
    ⟨none, .eqa false 17 (.l 1) (.l 0)⟩] [(6, 0)] []) (
  .cond (.r 6) (
  .seq (.reg false [⟨none, .mov (.v (.c (.d (.bool true))))⟩] [(3, 0)] []) (
  .ret)) (
  .skip)))) (
  .reg false [⟨none, .mov (.r 4)⟩,
    ⟨none, .bin .add (.l 0) (.v (.c (.d (.int .i64 1))))⟩,
    ⟨none, .mov (.l 0)⟩] [(4, 0)] []))

def fn66' : Fn := ⟨2, 7, [0, 1, 3, 4, 5, 9, 17], [.r 3],
  .seq (.reg false [⟨none, .box (.r 1)⟩,
    ⟨none, .mov (.v (.c (.d (.bool false))))⟩] [(2, 1), (3, 0)] []) (
  .seq (.seq (.reg false [⟨none, .mov (.v (.c (.d (.int .i64 0))))⟩] [(4, 0)] []) (
  .block 0 (
  .loop (some [0, 2, 4]) fn66L0))) (
  .seq (.reg false [⟨none, .mov (.v (.c (.d (.bool false))))⟩] [(3, 0)] []) (
  .ret)))⟩
theorem fn66_is : fn66 = fn66' := rfl

def fn56L0 : I := .seq (.seq (.reg false [⟨none, .mov (.r 4)⟩,
    ⟨none, .mov (.r 0)⟩,
    ⟨none, .len (.l 0)⟩,
    ⟨none, .bin .lss (.l 2) (.l 0)⟩] [(5, 0)] []) (
  .cond (.r 5) (
  .skip) (
  .exit 0))) (
  .seq (.block 1 (
  .seq (.reg true [⟨none, .mov (.r 0)⟩,
    ⟨none, .mov (.r 4)⟩,
    ⟨none, .ixa 20 (.l 1) (.l 0)⟩,
    ⟨none, .fa 0 (.l 0)⟩,
    ⟨none, .ld true 17 (.l 0)⟩,
    ⟨none, .ld true 17 (.r 2)⟩,
    ⟨none, .eqa false 17 (.l 1) (.l 0)⟩] [(6, 0)] []) (
  .cond (.r 6) (
  .seq (.reg false [⟨none, .mov (.r 4)⟩,
    ⟨none, .mov (.l 0)⟩] [(3, 0)] []) (
  .ret)) (
  .skip)))) (
  .reg false [⟨none, .mov (.r 4)⟩,
    ⟨none, .bin .add (.l 0) (.v (.c (.d (.int .i64 1))))⟩,
    ⟨none, .mov (.l 0)⟩] [(4, 0)] []))

def fn56' : Fn := ⟨2, 7, [0, 1, 3, 4, 5, 9, 18], [.r 3],
  .seq (.reg false [⟨none, .box (.r 1)⟩,
    ⟨none, .mov (.v (.c (.d (.int .i64 0))))⟩] [(2, 1), (3, 0)] []) (
  .seq (.seq (.reg false [⟨none, .mov (.v (.c (.d (.int .i64 0))))⟩] [(4, 0)] []) (
  .block 0 (
  .loop (some [0, 2, 4]) fn56L0))) (
  .seq (.reg false [⟨none, .mov (.v (.c (.d (.int .i64 (-1)))))⟩] [(3, 0)] []) (
  .ret)))⟩
theorem fn56_is : fn56 = fn56' := rfl

def fn58L0 : I := .seq (.seq (.reg false [⟨none, .mov (.r 5)⟩,
    ⟨none, .fa 2 (.r 2)⟩,
    ⟨none, .ld false 1 (.l 0)⟩,
    ⟨none, .len (.l 0)⟩,
    ⟨none, .bin .lss (.l 3) (.l 0)⟩] [(6, 0)] []) (
  .cond (.r 6) (
  .skip) (
  .exit 0))) (
  .seq (.block 1 (
  .seq (.reg true [⟨none, .fa 2 (.r 2)⟩,
    ⟨none, .ld false 1 (.l 0)⟩,
    ⟨none, .mov (.r 5)⟩,
    ⟨none, .ixa 18 (.l 1) (.l 0)⟩,
    ⟨none, .fa 0 (.l 0)⟩,
    ⟨none, .ld true 17 (.l 0)⟩,
    ⟨none, .ld true 17 (.r 3)⟩,
    ⟨none, .eqa false 17 (.l 1) (.l 0)⟩] [(7, 0)] []) (
  .cond (.r 7) (
  .seq (.reg false [⟨none, .mov (.r 5)⟩,
    ⟨none, .mov (.l 0)⟩] [(4, 0)] []) (
  .ret)) (
  .skip)))) (
  .reg false [⟨none, .mov (.r 5)⟩,
    ⟨none, .bin .add (.l 0) (.v (.c (.d (.int .i64 1))))⟩,
    ⟨none, .mov (.l 0)⟩] [(5, 0)] []))

def fn58' : Fn := ⟨2, 8, [0, 1, 2, 3, 4, 5, 10, 20], [.r 4],
  .seq (.reg false [⟨none, .box (.r 0)⟩,
    ⟨none, .box (.r 1)⟩,
    ⟨none, .mov (.v (.c (.d (.int .i64 0))))⟩] [(2, 2), (3, 1), (4, 0)] []) (
  .seq (.seq (.reg false [⟨none, .mov (.v (.c (.d (.int .i64 0))))⟩] [(5, 0)] []) (
  .block 0 (
  .loop (some [2, 3, 5]) fn58L0))) (
  .seq (.reg false [⟨none, .mov (.v (.c (.d (.int .i64 (-1)))))⟩] [(4, 0)] []) (
  .ret)))⟩
theorem fn58_is : fn58 = fn58' := rfl

def fn67L0 : I := .seq (.seq (.reg false [⟨none, .mov (.r 5)⟩,
    ⟨none, .bin .lss (.l 0) (.v (.c (.d (.int .i64 16))))⟩] [(6, 0)] []) (
  .cond (.r 6) (
  .skip) (
  .exit 0))) (
  .seq (.block 1 (
  .seq (.seq (.reg false [⟨none, .mov (.r 5)⟩,
    ⟨none, .fa 0 (.r 2)⟩,
    ⟨none, .ld false 1 (.l 0)⟩,
    ⟨none, .cvi .i64 (.l 0)⟩,
    ⟨none, .bin .geq (.l 3) (.l 0)⟩,
    ⟨none, .mov (.l 0)⟩,
    ⟨some (0, false), .mov (.r 5)⟩,
    ⟨some (1, false), .fa 0 (.r 3)⟩,
    ⟨some (2, false), .ld false 1 (.l 0)⟩,
    ⟨some (3, false), .cvi .i64 (.l 0)⟩,
    ⟨some (4, false), .bin .geq (.l 3) (.l 0)⟩,
    ⟨none, .pick (.l 5) (.v (.c (.d (.bool true)))) (.l 0)⟩] [(7, 0)] []) (
  .cond (.r 7) (
  .exit 0) (
  .skip))) (
  .seq (.seq (.reg true [⟨none, .mov (.r 5)⟩,
    ⟨none, .fa 1 (.r 2)⟩,
    ⟨none, .ixp 16 1 (.l 0) (.l 1)⟩,
    ⟨none, .ld false 1 (.l 0)⟩,
    ⟨none, .mov (.r 5)⟩,
    ⟨none, .fa 1 (.r 3)⟩,
    ⟨none, .ixp 16 1 (.l 0) (.l 1)⟩,
    ⟨none, .ld false 1 (.l 0)⟩,
    ⟨none, .bin .lss (.l 4) (.l 0)⟩] [(8, 0)] []) (
  .cond (.r 8) (
  .seq (.reg false [⟨none, .mov (.v (.c (.d (.int .i64 (-1)))))⟩] [(4, 0)] []) (
  .ret)) (
  .skip))) (
  .seq (.reg true [⟨none, .mov (.r 5)⟩,
    ⟨none, .fa 1 (.r 2)⟩,
    ⟨none, .ixp 16 1 (.l 0) (.l 1)⟩,
    ⟨none, .ld false 1 (.l 0)⟩,
    ⟨none, .mov (.r 5)⟩,
    ⟨none, .fa 1 (.r 3)⟩,
    ⟨none, .ixp 16 1 (.l 0) (.l 1)⟩,
    ⟨none, .ld false 1 (.l 0)⟩,
    ⟨none, .bin .gtr (.l 4) (.l 0)⟩] [(9, 0)] []) (
  .cond (.r 9) (
  .seq (.reg false [⟨none, .mov (.v (.c (.d (.int .i64 1))))⟩] [(4, 0)] []) (
  .ret)) (
  .skip)))))) (
  .reg false [⟨none, .mov (.r 5)⟩,
    ⟨none, .bin .add (.l 0) (.v (.c (.d (.int .i64 1))))⟩,
    ⟨none, .mov (.l 0)⟩] [(5, 0)] []))

def fn67' : Fn := ⟨2, 12, [0, 1, 2, 3, 4, 5, 7, 21, 30, 39, 44, 49], [.r 4],
  .seq (.reg false [⟨none, .box (.r 0)⟩,
    ⟨none, .box (.r 1)⟩,
    ⟨none, .mov (.v (.c (.d (.int .i64 0))))⟩] [(2, 2), (3, 1), (4, 0)] []) (
  .seq (.seq (.reg false [⟨none, .mov (.v (.c (.d (.int .i64 0))))⟩] [(5, 0)] []) (
  .block 0 (
  .loop (some [2, 3, 5]) fn67L0))) (
  .seq (.seq (.reg false [⟨none, .fa 0 (.r 2)⟩,
    ⟨none, .ld false 1 (.l 0)⟩,
    ⟨none, .fa 0 (.r 3)⟩,
    ⟨none, .ld false 1 (.l 0)⟩,
    ⟨none, .bin .lss (.l 2) (.l 0)⟩] [(10, 0)] []) (
  .cond (.r 10) (
  .seq (.reg false [⟨none, .mov (.v (.c (.d (.int .i64 (-1)))))⟩] [(4, 0)] []) (
  .ret)) (
  .skip))) (
  .seq (.seq (.reg false [⟨none, .fa 0 (.r 2)⟩,
    ⟨none, .ld false 1 (.l 0)⟩,
    ⟨none, .fa 0 (.r 3)⟩,
    ⟨none, .ld false 1 (.l 0)⟩,
    ⟨none, .bin .gtr (.l 2) (.l 0)⟩] [(11, 0)] []) (
  .cond (.r 11) (
  .seq (.reg false [⟨none, .mov (.v (.c (.d (.int .i64 1))))⟩] [(4, 0)] []) (
  .ret)) (
  .skip))) (
  .seq (.reg false [⟨none, .mov (.v (.c (.d (.int .i64 0))))⟩] [(4, 0)] []) (
  .ret)))))⟩
theorem fn67_is : fn67 = fn67' := rfl

end Mini
end Go.Proofs.YtcilepbdddgpoaaDoor
