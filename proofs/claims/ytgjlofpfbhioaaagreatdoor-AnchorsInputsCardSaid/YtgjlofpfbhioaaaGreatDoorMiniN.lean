/-
  Forms of functions, each loop by a name of its own. Printed by a program of ours (tools/mkloop.py).
-/
import Derived.Test.YtgjlofpfbhioaaaGreatDoorMiniF
namespace Go.Proofs.YtgjlofpfbhioaaaGreatDoor
namespace Mini

def fn53L0 : I := .seq (.reg false [⟨none, .bin .lss (.r 8) (.r 7)⟩] [(9, 0)] []) (
  .seq (.cond (.r 9) (
  .skip) (
  .exit 0)) (
  .seq (.block 1 (
  .seq (.reg false [⟨none, .ixa 1 (.r 6) (.r 8)⟩,
    ⟨none, .ld false 1 (.l 0)⟩,
    ⟨none, .mov (.l 0)⟩] [(3, 0)] []) (
  .seq (.reg false [⟨none, .mov (.r 3)⟩,
    ⟨none, .bin .neq (.l 0) (.v (.c (.d (.int .u32 0))))⟩] [(10, 0)] []) (
  .cond (.r 10) (
  .seq (.reg false [⟨none, .mov (.v (.c (.d (.int .i64 1))))⟩] [(2, 0)] []) (
  .ret)) (
  .skip))))) (
  .reg false [⟨none, .bin .add (.r 8) (.v (.c (.d (.int .i64 1))))⟩,
    ⟨none, .mov (.l 0)⟩] [(8, 0)] [])))

def fn53' : Fn := ⟨1, 11, [0, 1, 2, 4, 18, 34, 38, 39, 40, 41, 45], [.r 2],
  .seq (.reg false [⟨none, .box (.r 0)⟩,
    ⟨none, .mov (.v (.c (.d (.int .i64 0))))⟩] [(1, 1), (2, 0)] []) (
  .seq (.seq (.reg false [⟨none, .fa 0 (.r 1)⟩,
    ⟨none, .ld false 1 (.l 0)⟩,
    ⟨none, .bin .lss (.l 0) (.v (.c (.d (.int .u8 2))))⟩,
    ⟨none, .mov (.l 0)⟩,
    ⟨some (0, false), .fa 0 (.r 1)⟩,
    ⟨some (1, false), .ld false 1 (.l 0)⟩,
    ⟨some (2, false), .bin .gtr (.l 0) (.v (.c (.d (.int .u8 16))))⟩,
    ⟨none, .pick (.l 3) (.v (.c (.d (.bool true)))) (.l 0)⟩,
    ⟨none, .mov (.l 0)⟩,
    ⟨some (0, false), .fa 1 (.r 1)⟩,
    ⟨some (1, false), .ixp 16 1 (.l 0) (.v (.c (.d (.int .i64 0))))⟩,
    ⟨some (2, false), .ld false 1 (.l 0)⟩,
    ⟨some (3, false), .bin .gtr (.l 0) (.v (.c (.d (.int .u32 2))))⟩,
    ⟨none, .pick (.l 4) (.v (.c (.d (.bool true)))) (.l 0)⟩] [(4, 0)] []) (
  .cond (.r 4) (
  .seq (.reg false [⟨none, .mov (.v (.c (.d (.int .i64 1))))⟩] [(2, 0)] []) (
  .ret)) (
  .skip))) (
  .seq (.seq (.reg false [⟨none, .fa 1 (.r 1)⟩,
    ⟨none, .ixp 16 1 (.l 0) (.v (.c (.d (.int .i64 0))))⟩,
    ⟨none, .ld false 1 (.l 0)⟩,
    ⟨none, .bin .lss (.l 0) (.v (.c (.d (.int .u32 2))))⟩,
    ⟨none, .mov (.l 0)⟩,
    ⟨some (0, true), .fa 1 (.r 1)⟩,
    ⟨some (1, true), .ixp 16 1 (.l 0) (.v (.c (.d (.int .i64 1))))⟩,
    ⟨some (2, true), .ld false 1 (.l 0)⟩,
    ⟨some (3, true), .bin .gtr (.l 0) (.v (.c (.d (.int .u32 39))))⟩,
    ⟨none, .pick (.l 4) (.l 0) (.v (.c (.d (.bool false))))⟩,
    ⟨none, .mov (.l 0)⟩,
    ⟨some (0, false), .fa 1 (.r 1)⟩,
    ⟨some (1, false), .ixp 16 1 (.l 0) (.v (.c (.d (.int .i64 1))))⟩,
    ⟨some (2, false), .ld false 1 (.l 0)⟩,
    ⟨some (3, false), .bin .gtr (.l 0) (.v (.c (.d (.int .u32 4294967215))))⟩,
    ⟨none, .pick (.l 4) (.v (.c (.d (.bool true)))) (.l 0)⟩] [(5, 0)] []) (
  .cond (.r 5) (
  .seq (.reg false [⟨none, .mov (.v (.c (.d (.int .i64 1))))⟩] [(2, 0)] []) (
  .ret)) (
  .skip))) (
  .seq (.seq (.reg false [⟨none, .fa 1 (.r 1)⟩,
    ⟨none, .fa 0 (.r 1)⟩,
    ⟨none, .ld false 1 (.l 0)⟩,
    ⟨none, .slp 16 1 (.l 2) (some (.l 0)) none none⟩,
    ⟨none, .len (.l 0)⟩,
    ⟨none, .mov (.v (.c (.d (.int .i64 0))))⟩] [(6, 2), (7, 1), (8, 0)] []) (
  .block 0 (
  .loop (some [6, 7, 8]) fn53L0))) (
  .seq (.reg false [⟨none, .mov (.v (.c (.d (.int .i64 0))))⟩] [(2, 0)] []) (
  .ret)))))⟩
theorem fn53_is : fn53 = fn53' := rfl

def fn85L0 : I := .seq (.reg false [⟨none, .bin .lss (.r 9) (.r 8)⟩] [(10, 0)] []) (
  .seq (.cond (.r 10) (
  .skip) (
  .exit 0)) (
  .seq (.block 1 (
  .seq (.reg false [⟨none, .mov (.r 9)⟩,
    ⟨none, .ixa 1 (.r 7) (.r 9)⟩,
    ⟨none, .ld false 1 (.l 0)⟩,
    ⟨none, .mov (.l 2)⟩,
    ⟨none, .mov (.l 1)⟩] [(3, 1), (4, 0)] []) (
  .seq (.seq (.reg false [⟨none, .mov (.r 3)⟩,
    ⟨none, .mov (.r 1)⟩,
    ⟨none, .len (.l 0)⟩,
    ⟨none, .bin .geq (.l 2) (.l 0)⟩] [(11, 0)] []) (
  .cond (.r 11) (
  .seq (.reg false [⟨none, .mov (.v (.c (.d (.int .i64 1))))⟩] [(2, 0)] []) (
  .ret)) (
  .skip))) (
  .seq (.reg false [⟨none, .mov (.r 1)⟩,
    ⟨none, .mov (.r 3)⟩,
    ⟨none, .ixa 1 (.l 1) (.l 0)⟩,
    ⟨none, .ld false 1 (.l 0)⟩,
    ⟨none, .mov (.l 0)⟩] [(5, 0)] []) (
  .seq (.reg false [⟨none, .mov (.r 4)⟩,
    ⟨none, .mov (.r 5)⟩,
    ⟨none, .vc 109 [(.l 1), (.l 0)]⟩,
    ⟨none, .mov (.l 0)⟩] [(6, 0)] []) (
  .seq (.reg false [⟨none, .mov (.r 6)⟩,
    ⟨none, .bin .neq (.l 0) (.v (.c (.d (.int .i64 0))))⟩] [(12, 0)] []) (
  .cond (.r 12) (
  .seq (.reg false [⟨none, .mov (.r 6)⟩,
    ⟨none, .mov (.l 0)⟩] [(2, 0)] []) (
  .ret)) (
  .skip)))))))) (
  .reg false [⟨none, .bin .add (.r 9) (.v (.c (.d (.int .i64 1))))⟩,
    ⟨none, .mov (.l 0)⟩] [(9, 0)] [])))

def fn85' : Fn := ⟨2, 14, [0, 1, 4, 5, 6, 7, 8, 9, 10, 11, 12, 19, 28, 35], [.r 2],
  .seq (.reg false [⟨none, .mov (.v (.c (.d (.int .i64 0))))⟩] [(2, 0)] []) (
  .seq (.seq (.reg false [⟨none, .mov (.r 0)⟩,
    ⟨none, .len (.l 0)⟩,
    ⟨none, .mov (.v (.c (.d (.int .i64 0))))⟩] [(7, 2), (8, 1), (9, 0)] []) (
  .block 0 (
  .loop (some [0, 1, 7, 8, 9]) fn85L0))) (
  .seq (.seq (.reg false [⟨none, .mov (.r 0)⟩,
    ⟨none, .len (.l 0)⟩,
    ⟨none, .mov (.r 1)⟩,
    ⟨none, .len (.l 0)⟩,
    ⟨none, .bin .lss (.l 2) (.l 0)⟩] [(13, 0)] []) (
  .cond (.r 13) (
  .seq (.reg false [⟨none, .mov (.v (.c (.d (.int .i64 (-1)))))⟩] [(2, 0)] []) (
  .ret)) (
  .skip))) (
  .seq (.reg false [⟨none, .mov (.v (.c (.d (.int .i64 0))))⟩] [(2, 0)] []) (
  .ret))))⟩
theorem fn85_is : fn85 = fn85' := rfl

def fn19L0 : I := .seq (.reg false [⟨none, .bin .lss (.r 9) (.r 8)⟩] [(10, 0)] []) (
  .seq (.cond (.r 10) (
  .skip) (
  .exit 0)) (
  .seq (.block 1 (
  .seq (.reg false [⟨none, .mov (.r 9)⟩,
    ⟨none, .ixa 17 (.r 7) (.r 9)⟩,
    ⟨none, .ld true 17 (.l 0)⟩,
    ⟨none, .pre⟩,
    ⟨none, .mov (.l 3)⟩,
    ⟨none, .ini 17 (.l 2)⟩] [(2, 1), (3, 0)] []) (
  .seq (.seq (.reg false [⟨none, .ld true 17 (.r 3)⟩,
    ⟨none, .vc 53 [(.l 0)]⟩,
    ⟨none, .mov (.l 0)⟩] [(4, 0)] []) (
  .seq (.reg false [⟨none, .mov (.r 4)⟩,
    ⟨none, .bin .neq (.l 0) (.v (.c (.d (.int .i64 0))))⟩] [(11, 0)] []) (
  .cond (.r 11) (
  .seq (.reg false [⟨none, .mov (.r 4)⟩,
    ⟨none, .mov (.l 0)⟩] [(1, 0)] []) (
  .ret)) (
  .skip)))) (
  .seq (.seq (.reg false [⟨none, .mov (.r 2)⟩,
    ⟨none, .bin .eql (.l 0) (.v (.c (.d (.int .i64 0))))⟩] [(12, 0)] []) (
  .cond (.r 12) (
  .exit 1) (
  .skip))) (
  .seq (.reg true [⟨none, .mov (.r 0)⟩,
    ⟨none, .mov (.r 2)⟩,
    ⟨none, .bin .sub (.l 0) (.v (.c (.d (.int .i64 1))))⟩,
    ⟨none, .ixa 17 (.l 2) (.l 0)⟩,
    ⟨none, .ld true 17 (.l 0)⟩,
    ⟨none, .ld true 17 (.r 3)⟩,
    ⟨none, .vc 54 [(.l 1), (.l 0)]⟩,
    ⟨none, .mov (.l 0)⟩] [(5, 0)] []) (
  .block 2 (
  .seq (.reg false [⟨none, .mov (.r 5)⟩,
    ⟨none, .bin .eql (.l 0) (.v (.c (.d (.int .i64 0))))⟩,
    ⟨none, .mov (.l 0)⟩] [(13, 0)] []) (
  .cond (.r 13) (
  .seq (.reg false [⟨none, .mov (.v (.c (.d (.int .i64 14))))⟩] [(1, 0)] []) (
  .ret)) (
  .seq (.reg false [⟨none, .mov (.r 5)⟩,
    ⟨none, .bin .gtr (.l 0) (.v (.c (.d (.int .i64 0))))⟩,
    ⟨none, .mov (.l 0)⟩] [(14, 0)] []) (
  .cond (.r 14) (
  .seq (.reg false [⟨none, .mov (.v (.c (.d (.int .i64 13))))⟩] [(1, 0)] []) (
  .ret)) (
  .skip))))))))))) (
  .reg false [⟨none, .bin .add (.r 9) (.v (.c (.d (.int .i64 1))))⟩,
    ⟨none, .mov (.l 0)⟩] [(9, 0)] [])))

def fn19' : Fn := ⟨1, 15, [0, 2, 3, 4, 5, 6, 9, 10, 11, 12, 13, 20, 23, 31, 34], [.r 1],
  .seq (.reg false [⟨none, .mov (.v (.c (.d (.int .i64 0))))⟩] [(1, 0)] []) (
  .seq (.seq (.reg false [⟨none, .mov (.r 0)⟩,
    ⟨none, .len (.l 0)⟩,
    ⟨none, .bin .gtr (.l 0) (.v (.c (.d (.int .i64 256))))⟩] [(6, 0)] []) (
  .cond (.r 6) (
  .seq (.reg false [⟨none, .mov (.v (.c (.d (.int .i64 3))))⟩] [(1, 0)] []) (
  .ret)) (
  .skip))) (
  .seq (.seq (.reg false [⟨none, .mov (.r 0)⟩,
    ⟨none, .len (.l 0)⟩,
    ⟨none, .mov (.v (.c (.d (.int .i64 0))))⟩] [(7, 2), (8, 1), (9, 0)] []) (
  .block 0 (
  .loop (some [0, 7, 8, 9]) fn19L0))) (
  .seq (.reg false [⟨none, .mov (.v (.c (.d (.int .i64 0))))⟩] [(1, 0)] []) (
  .ret))))⟩
theorem fn19_is : fn19 = fn19' := rfl

def fn108L0 : I := .seq (.reg false [⟨none, .bin .lss (.r 6) (.r 5)⟩] [(7, 0)] []) (
  .seq (.cond (.r 7) (
  .skip) (
  .exit 0)) (
  .seq (.block 1 (
  .seq (.reg false [⟨none, .mov (.r 6)⟩,
    ⟨none, .mov (.l 0)⟩] [(4, 0)] []) (
  .seq (.reg true [⟨none, .ld true 17 (.r 2)⟩,
    ⟨none, .mov (.r 0)⟩,
    ⟨none, .mov (.r 4)⟩,
    ⟨none, .ixa 17 (.l 1) (.l 0)⟩,
    ⟨none, .ld true 17 (.l 0)⟩,
    ⟨none, .eqa false 17 (.l 4) (.l 0)⟩] [(8, 0)] []) (
  .cond (.r 8) (
  .seq (.reg false [⟨none, .mov (.r 4)⟩,
    ⟨none, .mov (.l 0)⟩] [(3, 0)] []) (
  .ret)) (
  .skip))))) (
  .reg false [⟨none, .bin .add (.r 6) (.v (.c (.d (.int .i64 1))))⟩,
    ⟨none, .mov (.l 0)⟩] [(6, 0)] [])))

def fn108' : Fn := ⟨2, 9, [0, 1, 3, 4, 5, 7, 8, 9, 16], [.r 3],
  .seq (.reg false [⟨none, .box (.r 1)⟩,
    ⟨none, .mov (.v (.c (.d (.int .i64 0))))⟩] [(2, 1), (3, 0)] []) (
  .seq (.seq (.reg false [⟨none, .mov (.r 0)⟩,
    ⟨none, .len (.l 0)⟩,
    ⟨none, .mov (.v (.c (.d (.int .i64 0))))⟩] [(5, 1), (6, 0)] []) (
  .block 0 (
  .loop (some [0, 2, 5, 6]) fn108L0))) (
  .seq (.reg false [⟨none, .mov (.v (.c (.d (.int .i64 (-1)))))⟩] [(3, 0)] []) (
  .ret)))⟩
theorem fn108_is : fn108 = fn108' := rfl

def fn52L0 : I := .seq (.reg false [⟨none, .bin .lss (.r 12) (.r 11)⟩] [(13, 0)] []) (
  .seq (.cond (.r 13) (
  .skip) (
  .exit 1)) (
  .seq (.block 2 (
  .seq (.reg false [⟨none, .ixa 17 (.r 10) (.r 12)⟩,
    ⟨none, .ld true 17 (.l 0)⟩,
    ⟨none, .pre⟩,
    ⟨none, .ini 17 (.l 1)⟩] [(6, 0)] []) (
  .seq (.reg false [⟨none, .mov (.r 1)⟩,
    ⟨none, .ld true 17 (.r 6)⟩,
    ⟨none, .vc 84 [(.l 1), (.l 0)]⟩] [(14, 0)] []) (
  .cond (.r 14) (
  .reg false [⟨none, .mov (.r 5)⟩,
    ⟨none, .ld true 17 (.r 6)⟩,
    ⟨none, .bsl 1 17 [.int .u8 0, .int .u32 0, .int .u32 0, .int .u32 0, .int .u32 0, .int .u32 0, .int .u32 0, .int .u32 0, .int .u32 0, .int .u32 0, .int .u32 0, .int .u32 0, .int .u32 0, .int .u32 0, .int .u32 0, .int .u32 0, .int .u32 0] [(0, 17, (.l 0))]⟩,
    ⟨none, .app 17 (.l 2) (.l 0)⟩,
    ⟨none, .mov (.l 0)⟩] [(5, 0)] []) (
  .skip))))) (
  .reg false [⟨none, .bin .add (.r 12) (.v (.c (.d (.int .i64 1))))⟩,
    ⟨none, .mov (.l 0)⟩] [(12, 0)] [])))

def fn52' : Fn := ⟨2, 15, [0, 1, 4, 5, 6, 7, 9, 16, 23, 27, 31, 32, 33, 34, 39], [.r 2],
  .seq (.reg false [⟨none, .mov (.v (.c (.d (.nils))))⟩] [(2, 0)] []) (
  .seq (.reg false [⟨none, .mov (.r 0)⟩,
    ⟨none, .vc 83 []⟩,
    ⟨none, .vc 84 [(.l 1), (.l 0)]⟩,
    ⟨none, .mov (.r 1)⟩,
    ⟨none, .vc 83 []⟩,
    ⟨none, .vc 84 [(.l 1), (.l 0)]⟩,
    ⟨none, .mov (.l 3)⟩,
    ⟨none, .mov (.l 1)⟩] [(3, 1), (4, 0)] []) (
  .seq (.block 0 (
  .seq (.reg false [⟨none, .mov (.r 3)⟩,
    ⟨none, .mov (.l 0)⟩,
    ⟨some (0, true), .mov (.r 4)⟩,
    ⟨none, .pick (.l 1) (.l 0) (.v (.c (.d (.bool false))))⟩,
    ⟨none, .mov (.l 0)⟩] [(7, 0)] []) (
  .cond (.r 7) (
  .seq (.reg false [⟨none, .vc 83 []⟩,
    ⟨none, .bsl 1 17 [.int .u8 0, .int .u32 0, .int .u32 0, .int .u32 0, .int .u32 0, .int .u32 0, .int .u32 0, .int .u32 0, .int .u32 0, .int .u32 0, .int .u32 0, .int .u32 0, .int .u32 0, .int .u32 0, .int .u32 0, .int .u32 0, .int .u32 0] [(0, 17, (.l 0))]⟩,
    ⟨none, .mov (.l 0)⟩] [(2, 0)] []) (
  .ret)) (
  .seq (.reg false [⟨none, .mov (.r 3)⟩,
    ⟨none, .mov (.l 0)⟩] [(8, 0)] []) (
  .cond (.r 8) (
  .seq (.reg false [⟨none, .mov (.r 1)⟩,
    ⟨none, .hc (.v (.c (.d (.fn 67 [] [])))) [(.l 0)]⟩,
    ⟨none, .mov (.l 0)⟩] [(2, 0)] []) (
  .ret)) (
  .seq (.reg false [⟨none, .mov (.r 4)⟩,
    ⟨none, .mov (.l 0)⟩] [(9, 0)] []) (
  .cond (.r 9) (
  .seq (.reg false [⟨none, .mov (.r 0)⟩,
    ⟨none, .hc (.v (.c (.d (.fn 67 [] [])))) [(.l 0)]⟩,
    ⟨none, .mov (.l 0)⟩] [(2, 0)] []) (
  .ret)) (
  .skip)))))))) (
  .seq (.reg false [⟨none, .mov (.v (.c (.d (.nils))))⟩] [(5, 0)] []) (
  .seq (.seq (.reg false [⟨none, .mov (.r 0)⟩,
    ⟨none, .len (.l 0)⟩,
    ⟨none, .mov (.v (.c (.d (.int .i64 0))))⟩] [(10, 2), (11, 1), (12, 0)] []) (
  .block 1 (
  .seq (.fresh 5 none 17) (
  .loop (some [1, 5, 10, 11, 12]) fn52L0)))) (
  .seq (.reg false [⟨none, .mov (.r 5)⟩,
    ⟨none, .hc (.v (.c (.d (.fn 67 [] [])))) [(.l 0)]⟩,
    ⟨none, .mov (.l 0)⟩] [(2, 0)] []) (
  .ret))))))⟩
theorem fn52_is : fn52 = fn52' := rfl

def fn70L0 : I := .seq (.reg false [⟨none, .bin .lss (.r 6) (.r 5)⟩] [(7, 0)] []) (
  .seq (.cond (.r 7) (
  .skip) (
  .exit 0)) (
  .seq (.block 1 (
  .seq (.reg false [⟨none, .mov (.r 6)⟩,
    ⟨none, .mov (.l 0)⟩] [(2, 0)] []) (
  .seq (.reg true [⟨none, .mov (.r 0)⟩,
    ⟨none, .mov (.r 2)⟩,
    ⟨none, .ixs (.l 1) (.l 0)⟩,
    ⟨none, .bin .geq (.l 0) (.v (.c (.d (.int .u8 97))))⟩,
    ⟨none, .mov (.l 0)⟩,
    ⟨some (0, true), .mov (.r 0)⟩,
    ⟨some (1, true), .mov (.r 2)⟩,
    ⟨some (2, true), .ixs (.l 1) (.l 0)⟩,
    ⟨some (3, true), .bin .leq (.l 0) (.v (.c (.d (.int .u8 122))))⟩,
    ⟨none, .pick (.l 4) (.l 0) (.v (.c (.d (.bool false))))⟩,
    ⟨none, .mov (.r 0)⟩,
    ⟨none, .mov (.r 2)⟩,
    ⟨none, .ixs (.l 1) (.l 0)⟩,
    ⟨none, .bin .geq (.l 0) (.v (.c (.d (.int .u8 48))))⟩,
    ⟨none, .mov (.l 0)⟩,
    ⟨some (0, true), .mov (.r 0)⟩,
    ⟨some (1, true), .mov (.r 2)⟩,
    ⟨some (2, true), .ixs (.l 1) (.l 0)⟩,
    ⟨some (3, true), .bin .leq (.l 0) (.v (.c (.d (.int .u8 57))))⟩,
    ⟨none, .pick (.l 4) (.l 0) (.v (.c (.d (.bool false))))⟩,
    ⟨none, .mov (.l 10)⟩,
    ⟨none, .mov (.l 1)⟩] [(3, 1), (4, 0)] []) (
  .seq (.reg false [⟨none, .mov (.r 3)⟩,
    ⟨none, .un .not (.l 0)⟩,
    ⟨none, .mov (.l 0)⟩,
    ⟨some (0, true), .mov (.r 2)⟩,
    ⟨some (1, true), .bin .eql (.l 0) (.v (.c (.d (.int .i64 0))))⟩,
    ⟨some (2, true), .mov (.l 0)⟩,
    ⟨some (0, false), .mov (.r 4)⟩,
    ⟨some (1, false), .un .not (.l 0)⟩,
    ⟨some (2, false), .mov (.l 0)⟩,
    ⟨some (0, true), .mov (.r 0)⟩,
    ⟨some (1, true), .mov (.r 2)⟩,
    ⟨some (2, true), .ixs (.l 1) (.l 0)⟩,
    ⟨some (3, true), .bin .neq (.l 0) (.v (.c (.d (.int .u8 45))))⟩,
    ⟨some (7, false), .pick (.l 4) (.l 0) (.v (.c (.d (.bool false))))⟩,
    ⟨some (11, true), .pick (.l 8) (.v (.c (.d (.bool true)))) (.l 0)⟩,
    ⟨none, .pick (.l 12) (.l 0) (.v (.c (.d (.bool false))))⟩] [(8, 0)] []) (
  .cond (.r 8) (
  .seq (.reg false [⟨none, .mov (.v (.c (.d (.bool false))))⟩] [(1, 0)] []) (
  .ret)) (
  .skip)))))) (
  .reg false [⟨none, .bin .add (.r 6) (.v (.c (.d (.int .i64 1))))⟩,
    ⟨none, .mov (.l 0)⟩] [(6, 0)] [])))

def fn70' : Fn := ⟨1, 9, [0, 2, 3, 4, 5, 7, 8, 9, 46], [.r 1],
  .seq (.reg false [⟨none, .mov (.v (.c (.d (.bool false))))⟩] [(1, 0)] []) (
  .seq (.seq (.reg false [⟨none, .mov (.r 0)⟩,
    ⟨none, .lns (.l 0)⟩,
    ⟨none, .mov (.v (.c (.d (.int .i64 0))))⟩] [(5, 1), (6, 0)] []) (
  .block 0 (
  .loop (some [0, 5, 6]) fn70L0))) (
  .seq (.reg false [⟨none, .mov (.r 0)⟩,
    ⟨none, .lns (.l 0)⟩,
    ⟨none, .bin .gtr (.l 0) (.v (.c (.d (.int .i64 0))))⟩,
    ⟨none, .mov (.l 0)⟩,
    ⟨some (0, true), .mov (.r 0)⟩,
    ⟨some (1, true), .lns (.l 0)⟩,
    ⟨some (2, true), .bin .leq (.l 0) (.v (.c (.d (.int .i64 32))))⟩,
    ⟨none, .pick (.l 3) (.l 0) (.v (.c (.d (.bool false))))⟩,
    ⟨none, .mov (.l 0)⟩] [(1, 0)] []) (
  .ret)))⟩
theorem fn70_is : fn70 = fn70' := rfl

def fn20L0 : I := .seq (.seq (.reg false [⟨none, .mov (.r 3)⟩,
    ⟨none, .mov (.r 0)⟩,
    ⟨none, .len (.l 0)⟩,
    ⟨none, .bin .lss (.l 2) (.l 0)⟩] [(5, 0)] []) (
  .cond (.r 5) (
  .skip) (
  .exit 0))) (
  .seq (.block 1 (
  .seq (.reg true [⟨none, .mov (.r 0)⟩,
    ⟨none, .mov (.r 3)⟩,
    ⟨none, .ixa 17 (.l 1) (.l 0)⟩,
    ⟨none, .ld true 17 (.l 0)⟩,
    ⟨none, .mov (.r 1)⟩,
    ⟨none, .mov (.r 3)⟩,
    ⟨none, .ixa 17 (.l 1) (.l 0)⟩,
    ⟨none, .ld true 17 (.l 0)⟩,
    ⟨none, .eqa true 17 (.l 4) (.l 0)⟩] [(6, 0)] []) (
  .cond (.r 6) (
  .seq (.reg false [⟨none, .mov (.v (.c (.d (.int .i64 0))))⟩] [(2, 0)] []) (
  .ret)) (
  .skip)))) (
  .reg false [⟨none, .mov (.r 3)⟩,
    ⟨none, .bin .add (.l 0) (.v (.c (.d (.int .i64 1))))⟩,
    ⟨none, .mov (.l 0)⟩] [(3, 0)] []))

def fn20' : Fn := ⟨2, 7, [0, 1, 4, 5, 10, 14, 25], [.r 2],
  .seq (.reg false [⟨none, .mov (.v (.c (.d (.int .i64 0))))⟩] [(2, 0)] []) (
  .seq (.seq (.reg false [⟨none, .mov (.r 0)⟩,
    ⟨none, .len (.l 0)⟩,
    ⟨none, .mov (.r 1)⟩,
    ⟨none, .len (.l 0)⟩,
    ⟨none, .bin .neq (.l 2) (.l 0)⟩] [(4, 0)] []) (
  .cond (.r 4) (
  .seq (.reg false [⟨none, .mov (.v (.c (.d (.int .i64 0))))⟩] [(2, 0)] []) (
  .ret)) (
  .skip))) (
  .seq (.seq (.reg false [⟨none, .mov (.v (.c (.d (.int .i64 0))))⟩] [(3, 0)] []) (
  .block 0 (
  .loop (some [0, 1, 3]) fn20L0))) (
  .seq (.reg false [⟨none, .mov (.v (.c (.d (.int .i64 1))))⟩] [(2, 0)] []) (
  .ret))))⟩
theorem fn20_is : fn20 = fn20' := rfl

def fn21L0 : I := .seq (.seq (.reg false [⟨none, .mov (.r 5)⟩,
    ⟨none, .mov (.r 0)⟩,
    ⟨none, .len (.l 0)⟩,
    ⟨none, .bin .lss (.l 2) (.l 0)⟩] [(9, 0)] []) (
  .cond (.r 9) (
  .skip) (
  .exit 0))) (
  .seq (.block 1 (
  .seq (.reg false [⟨none, .mov (.r 1)⟩,
    ⟨none, .mov (.r 0)⟩,
    ⟨none, .mov (.r 5)⟩,
    ⟨none, .ixa 17 (.l 1) (.l 0)⟩,
    ⟨none, .ld true 17 (.l 0)⟩,
    ⟨none, .vc 55 [(.l 4), (.l 0)]⟩] [(10, 0)] []) (
  .cond (.r 10) (
  .reg false [⟨none, .mov (.r 4)⟩,
    ⟨none, .mov (.r 0)⟩,
    ⟨none, .mov (.r 5)⟩,
    ⟨none, .ixa 17 (.l 1) (.l 0)⟩,
    ⟨none, .ld true 17 (.l 0)⟩,
    ⟨none, .bsl 1 17 [.int .u8 0, .int .u32 0, .int .u32 0, .int .u32 0, .int .u32 0, .int .u32 0, .int .u32 0, .int .u32 0, .int .u32 0, .int .u32 0, .int .u32 0, .int .u32 0, .int .u32 0, .int .u32 0, .int .u32 0, .int .u32 0, .int .u32 0] [(0, 17, (.l 0))]⟩,
    ⟨none, .app 17 (.l 5) (.l 0)⟩,
    ⟨none, .mov (.l 0)⟩] [(4, 0)] []) (
  .skip)))) (
  .reg false [⟨none, .mov (.r 5)⟩,
    ⟨none, .bin .add (.l 0) (.v (.c (.d (.int .i64 1))))⟩,
    ⟨none, .mov (.l 0)⟩] [(5, 0)] []))

def fn21' : Fn := ⟨2, 11, [0, 1, 4, 5, 6, 7, 16, 21, 25, 30, 38], [.r 2],
  .seq (.reg false [⟨none, .mov (.v (.c (.d (.nils))))⟩] [(2, 0)] []) (
  .seq (.reg false [⟨none, .vc 51 []⟩,
    ⟨none, .pre⟩,
    ⟨none, .ini 17 (.l 1)⟩] [(3, 0)] []) (
  .seq (.seq (.reg false [⟨none, .mov (.r 0)⟩,
    ⟨none, .ld true 17 (.r 3)⟩,
    ⟨none, .vc 55 [(.l 1), (.l 0)]⟩,
    ⟨none, .mov (.l 0)⟩,
    ⟨some (0, true), .mov (.r 1)⟩,
    ⟨some (1, true), .ld true 17 (.r 3)⟩,
    ⟨some (2, true), .vc 55 [(.l 1), (.l 0)]⟩,
    ⟨none, .pick (.l 3) (.l 0) (.v (.c (.d (.bool false))))⟩] [(6, 0)] []) (
  .cond (.r 6) (
  .seq (.reg false [⟨none, .ld true 17 (.r 3)⟩,
    ⟨none, .bsl 1 17 [.int .u8 0, .int .u32 0, .int .u32 0, .int .u32 0, .int .u32 0, .int .u32 0, .int .u32 0, .int .u32 0, .int .u32 0, .int .u32 0, .int .u32 0, .int .u32 0, .int .u32 0, .int .u32 0, .int .u32 0, .int .u32 0, .int .u32 0] [(0, 17, (.l 0))]⟩,
    ⟨none, .mov (.l 0)⟩] [(2, 0)] []) (
  .ret)) (
  .skip))) (
  .seq (.seq (.reg false [⟨none, .mov (.r 0)⟩,
    ⟨none, .ld true 17 (.r 3)⟩,
    ⟨none, .vc 55 [(.l 1), (.l 0)]⟩] [(7, 0)] []) (
  .cond (.r 7) (
  .seq (.reg false [⟨none, .mov (.r 1)⟩,
    ⟨none, .mov (.l 0)⟩] [(2, 0)] []) (
  .ret)) (
  .skip))) (
  .seq (.seq (.reg false [⟨none, .mov (.r 1)⟩,
    ⟨none, .ld true 17 (.r 3)⟩,
    ⟨none, .vc 55 [(.l 1), (.l 0)]⟩] [(8, 0)] []) (
  .cond (.r 8) (
  .seq (.reg false [⟨none, .mov (.r 0)⟩,
    ⟨none, .mov (.l 0)⟩] [(2, 0)] []) (
  .ret)) (
  .skip))) (
  .seq (.reg false [⟨none, .mov (.v (.c (.d (.nils))))⟩] [(4, 0)] []) (
  .seq (.seq (.reg false [⟨none, .mov (.v (.c (.d (.int .i64 0))))⟩] [(5, 0)] []) (
  .block 0 (
  .seq (.fresh 4 none 17) (
  .loop (some [0, 1, 4, 5]) fn21L0)))) (
  .seq (.reg false [⟨none, .mov (.r 4)⟩,
    ⟨none, .mov (.l 0)⟩] [(2, 0)] []) (
  .ret))))))))⟩
theorem fn21_is : fn21 = fn21' := rfl

def fn55L0 : I := .seq (.seq (.reg false [⟨none, .mov (.r 4)⟩,
    ⟨none, .mov (.r 0)⟩,
    ⟨none, .len (.l 0)⟩,
    ⟨none, .bin .lss (.l 2) (.l 0)⟩] [(5, 0)] []) (
  .cond (.r 5) (
  .skip) (
  .exit 0))) (
  .seq (.block 1 (
  .seq (.reg true [⟨none, .mov (.r 0)⟩,
    ⟨none, .mov (.r 4)⟩,
    ⟨none, .ixa 17 (.l 1) (.l 0)⟩,
    ⟨none, .ld true 17 (.l 0)⟩,
    ⟨none, .ld true 17 (.r 2)⟩,
    ⟨none, .eqa false 17 (.l 1) (.l 0)⟩] [(6, 0)] []) (
  .cond (.r 6) (
  .seq (.reg false [⟨none, .mov (.v (.c (.d (.bool true))))⟩] [(3, 0)] []) (
  .ret)) (
  .skip)))) (
  .reg false [⟨none, .mov (.r 4)⟩,
    ⟨none, .bin .add (.l 0) (.v (.c (.d (.int .i64 1))))⟩,
    ⟨none, .mov (.l 0)⟩] [(4, 0)] []))

def fn55' : Fn := ⟨2, 7, [0, 1, 3, 4, 5, 9, 17], [.r 3],
  .seq (.reg false [⟨none, .box (.r 1)⟩,
    ⟨none, .mov (.v (.c (.d (.bool false))))⟩] [(2, 1), (3, 0)] []) (
  .seq (.seq (.reg false [⟨none, .mov (.v (.c (.d (.int .i64 0))))⟩] [(4, 0)] []) (
  .block 0 (
  .loop (some [0, 2, 4]) fn55L0))) (
  .seq (.reg false [⟨none, .mov (.v (.c (.d (.bool false))))⟩] [(3, 0)] []) (
  .ret)))⟩
theorem fn55_is : fn55 = fn55' := rfl

def fn56L0 : I := .seq (.seq (.reg false [⟨none, .mov (.r 2)⟩,
    ⟨none, .mov (.r 0)⟩,
    ⟨none, .lns (.l 0)⟩,
    ⟨none, .bin .lss (.l 2) (.l 0)⟩] [(6, 0)] []) (
  .cond (.r 6) (
  .skip) (
  .exit 0))) (
  .seq (.block 1 (
  .seq (.reg false [⟨none, .mov (.r 0)⟩,
    ⟨none, .mov (.r 2)⟩,
    ⟨none, .ixs (.l 1) (.l 0)⟩,
    ⟨none, .bin .geq (.l 0) (.v (.c (.d (.int .u8 97))))⟩,
    ⟨none, .mov (.l 0)⟩,
    ⟨some (0, true), .mov (.r 0)⟩,
    ⟨some (1, true), .mov (.r 2)⟩,
    ⟨some (2, true), .ixs (.l 1) (.l 0)⟩,
    ⟨some (3, true), .bin .leq (.l 0) (.v (.c (.d (.int .u8 122))))⟩,
    ⟨none, .pick (.l 4) (.l 0) (.v (.c (.d (.bool false))))⟩,
    ⟨none, .mov (.l 0)⟩] [(3, 0)] []) (
  .seq (.reg false [⟨none, .mov (.r 0)⟩,
    ⟨none, .mov (.r 2)⟩,
    ⟨none, .ixs (.l 1) (.l 0)⟩,
    ⟨none, .bin .geq (.l 0) (.v (.c (.d (.int .u8 48))))⟩,
    ⟨none, .mov (.l 0)⟩,
    ⟨some (0, true), .mov (.r 0)⟩,
    ⟨some (1, true), .mov (.r 2)⟩,
    ⟨some (2, true), .ixs (.l 1) (.l 0)⟩,
    ⟨some (3, true), .bin .leq (.l 0) (.v (.c (.d (.int .u8 57))))⟩,
    ⟨none, .pick (.l 4) (.l 0) (.v (.c (.d (.bool false))))⟩,
    ⟨none, .mov (.l 0)⟩] [(4, 0)] []) (
  .seq (.reg false [⟨none, .mov (.r 3)⟩,
    ⟨none, .un .not (.l 0)⟩,
    ⟨none, .mov (.l 0)⟩,
    ⟨some (0, true), .mov (.r 4)⟩,
    ⟨some (1, true), .un .not (.l 0)⟩,
    ⟨none, .pick (.l 2) (.l 0) (.v (.c (.d (.bool false))))⟩,
    ⟨none, .mov (.l 0)⟩,
    ⟨some (0, true), .mov (.r 0)⟩,
    ⟨some (1, true), .mov (.r 2)⟩,
    ⟨some (2, true), .ixs (.l 1) (.l 0)⟩,
    ⟨some (3, true), .bin .neq (.l 0) (.v (.c (.d (.int .u8 45))))⟩,
    ⟨none, .pick (.l 4) (.l 0) (.v (.c (.d (.bool false))))⟩] [(7, 0)] []) (
  .cond (.r 7) (
  .seq (.reg false [⟨none, .mov (.v (.c (.d (.bool false))))⟩] [(1, 0)] []) (
  .ret)) (
  .skip)))))) (
  .reg false [⟨none, .mov (.r 2)⟩,
    ⟨none, .bin .add (.l 0) (.v (.c (.d (.int .i64 1))))⟩,
    ⟨none, .mov (.l 0)⟩] [(2, 0)] []))

def fn56' : Fn := ⟨1, 8, [0, 2, 3, 4, 5, 23, 27, 61], [.r 1],
  .seq (.reg false [⟨none, .mov (.v (.c (.d (.bool false))))⟩] [(1, 0)] []) (
  .seq (.seq (.reg false [⟨none, .mov (.r 0)⟩,
    ⟨none, .lns (.l 0)⟩,
    ⟨none, .bin .lss (.l 0) (.v (.c (.d (.int .i64 1))))⟩,
    ⟨none, .mov (.l 0)⟩,
    ⟨some (0, false), .mov (.r 0)⟩,
    ⟨some (1, false), .lns (.l 0)⟩,
    ⟨some (2, false), .bin .gtr (.l 0) (.v (.c (.d (.int .i64 32))))⟩,
    ⟨none, .pick (.l 3) (.v (.c (.d (.bool true)))) (.l 0)⟩,
    ⟨none, .mov (.l 0)⟩,
    ⟨some (0, false), .mov (.r 0)⟩,
    ⟨some (1, false), .ixs (.l 0) (.v (.c (.d (.int .i64 0))))⟩,
    ⟨some (2, false), .bin .lss (.l 0) (.v (.c (.d (.int .u8 97))))⟩,
    ⟨none, .pick (.l 3) (.v (.c (.d (.bool true)))) (.l 0)⟩,
    ⟨none, .mov (.l 0)⟩,
    ⟨some (0, false), .mov (.r 0)⟩,
    ⟨some (1, false), .ixs (.l 0) (.v (.c (.d (.int .i64 0))))⟩,
    ⟨some (2, false), .bin .gtr (.l 0) (.v (.c (.d (.int .u8 122))))⟩,
    ⟨none, .pick (.l 3) (.v (.c (.d (.bool true)))) (.l 0)⟩] [(5, 0)] []) (
  .cond (.r 5) (
  .seq (.reg false [⟨none, .mov (.v (.c (.d (.bool false))))⟩] [(1, 0)] []) (
  .ret)) (
  .skip))) (
  .seq (.seq (.reg false [⟨none, .mov (.v (.c (.d (.int .i64 0))))⟩] [(2, 0)] []) (
  .block 0 (
  .loop (some [0, 2]) fn56L0))) (
  .seq (.reg false [⟨none, .mov (.v (.c (.d (.bool true))))⟩] [(1, 0)] []) (
  .ret))))⟩
theorem fn56_is : fn56 = fn56' := rfl

def fn3' : Fn := ⟨2, 17, [0, 1, 2, 3, 4, 5, 6, 7, 8, 9, 10, 11, 27, 50, 84, 88, 92], [.r 4],
  .seq (.reg false [⟨none, .box (.r 0)⟩,
    ⟨none, .box (.r 1)⟩,
    ⟨none, .mov (.v (.c (.d (.bool false))))⟩] [(2, 2), (3, 1), (4, 0)] []) (
  .seq (.seq (.reg false [⟨none, .fa 1 (.r 2)⟩,
    ⟨none, .ld false 1 (.l 0)⟩,
    ⟨none, .len (.l 0)⟩,
    ⟨none, .bin .gtr (.l 0) (.v (.c (.d (.int .i64 20))))⟩,
    ⟨none, .mov (.l 0)⟩,
    ⟨some (0, false), .fa 0 (.r 3)⟩,
    ⟨some (1, false), .ld false 1 (.l 0)⟩,
    ⟨some (2, false), .len (.l 0)⟩,
    ⟨some (3, false), .bin .gtr (.l 0) (.v (.c (.d (.int .i64 20))))⟩,
    ⟨none, .pick (.l 4) (.v (.c (.d (.bool true)))) (.l 0)⟩,
    ⟨none, .mov (.l 0)⟩,
    ⟨some (0, false), .fa 0 (.r 2)⟩,
    ⟨some (1, false), .ld false 1 (.l 0)⟩,
    ⟨some (2, false), .lns (.l 0)⟩,
    ⟨some (3, false), .bin .gtr (.l 0) (.v (.c (.d (.int .i64 100))))⟩,
    ⟨none, .pick (.l 4) (.v (.c (.d (.bool true)))) (.l 0)⟩] [(12, 0)] []) (
  .cond (.r 12) (
  .seq (.reg false [⟨none, .vc 16 []⟩,
    ⟨none, .mov (.l 0)⟩] [(4, 0)] []) (
  .ret)) (
  .skip))) (
  .seq (.reg false [⟨none, .ld true 5 (.r 2)⟩,
    ⟨none, .ld true 4 (.r 3)⟩,
    ⟨none, .vc 17 [(.l 1), (.l 0)]⟩,
    ⟨none, .mov (.l 0)⟩,
    ⟨none, .ext (.l 0) 0⟩,
    ⟨none, .ext (.l 1) 1⟩,
    ⟨none, .pre⟩,
    ⟨none, .ini 4 (.l 2)⟩,
    ⟨none, .mov (.l 2)⟩] [(5, 1), (6, 0)] []) (
  .seq (.reg false [⟨none, .fa 1 (.r 2)⟩,
    ⟨none, .ld false 1 (.l 0)⟩,
    ⟨none, .fa 0 (.r 3)⟩,
    ⟨none, .ld false 1 (.l 0)⟩,
    ⟨none, .hc (.v (.c (.d (.fn 18 [] [])))) [(.l 2), (.l 0)]⟩,
    ⟨none, .mov (.l 0)⟩,
    ⟨none, .ext (.l 0) 0⟩,
    ⟨none, .ext (.l 1) 1⟩,
    ⟨none, .mov (.l 1)⟩,
    ⟨none, .mov (.l 1)⟩] [(7, 1), (8, 0)] []) (
  .seq (.reg true [⟨none, .fa 1 (.r 2)⟩,
    ⟨none, .ld false 1 (.l 0)⟩,
    ⟨none, .vc 19 [(.l 0)]⟩,
    ⟨none, .fa 0 (.r 3)⟩,
    ⟨none, .ld false 1 (.l 0)⟩,
    ⟨none, .vc 19 [(.l 0)]⟩,
    ⟨none, .mov (.l 3)⟩,
    ⟨none, .mov (.l 1)⟩] [(9, 1), (10, 0)] []) (
  .seq (.seq (.reg false [⟨none, .mov (.r 9)⟩,
    ⟨none, .bin .eql (.l 0) (.v (.c (.d (.int .i64 0))))⟩] [(13, 0)] []) (
  .cond (.r 13) (
  .reg false [⟨none, .mov (.r 10)⟩,
    ⟨none, .mov (.l 0)⟩] [(9, 0)] []) (
  .skip))) (
  .seq (.seq (.reg false [⟨none, .mov (.r 8)⟩,
    ⟨none, .mov (.r 9)⟩,
    ⟨none, .bin .neq (.l 1) (.l 0)⟩,
    ⟨none, .mov (.l 0)⟩,
    ⟨some (0, false), .mov (.r 8)⟩,
    ⟨some (1, false), .bin .neq (.l 0) (.v (.c (.d (.int .i64 0))))⟩,
    ⟨some (2, false), .mov (.l 0)⟩,
    ⟨some (0, true), .mov (.r 7)⟩,
    ⟨some (1, true), .len (.l 0)⟩,
    ⟨some (2, true), .bin .gtr (.l 0) (.v (.c (.d (.int .i64 0))))⟩,
    ⟨some (6, false), .pick (.l 3) (.l 0) (.v (.c (.d (.bool false))))⟩,
    ⟨none, .pick (.l 7) (.v (.c (.d (.bool true)))) (.l 0)⟩,
    ⟨none, .mov (.l 0)⟩,
    ⟨some (0, false), .mov (.r 8)⟩,
    ⟨some (1, false), .bin .eql (.l 0) (.v (.c (.d (.int .i64 0))))⟩,
    ⟨some (2, false), .mov (.l 0)⟩,
    ⟨some (0, true), .mov (.r 7)⟩,
    ⟨some (1, true), .fa 1 (.r 2)⟩,
    ⟨some (2, true), .ld false 1 (.l 0)⟩,
    ⟨some (3, true), .fa 0 (.r 3)⟩,
    ⟨some (4, true), .ld false 1 (.l 0)⟩,
    ⟨some (5, true), .vc 21 [(.l 2), (.l 0)]⟩,
    ⟨some (6, true), .vc 20 [(.l 5), (.l 0)]⟩,
    ⟨some (7, true), .bin .eql (.l 0) (.v (.c (.d (.int .i64 0))))⟩,
    ⟨some (11, false), .pick (.l 8) (.l 0) (.v (.c (.d (.bool false))))⟩,
    ⟨none, .pick (.l 12) (.v (.c (.d (.bool true)))) (.l 0)⟩,
    ⟨none, .mov (.l 0)⟩,
    ⟨some (0, false), .mov (.r 7)⟩,
    ⟨some (1, false), .cap (.l 0)⟩,
    ⟨some (2, false), .mov (.r 7)⟩,
    ⟨some (3, false), .len (.l 0)⟩,
    ⟨some (4, false), .bin .neq (.l 2) (.l 0)⟩,
    ⟨none, .pick (.l 5) (.v (.c (.d (.bool true)))) (.l 0)⟩] [(14, 0)] []) (
  .cond (.r 14) (
  .seq (.reg false [⟨none, .mov (.v (.c (.d (.bool false))))⟩] [(4, 0)] []) (
  .ret)) (
  .skip))) (
  .seq (.reg false [⟨none, .ld true 5 (.r 2)⟩,
    ⟨none, .vc 22 [(.l 0)]⟩,
    ⟨none, .mov (.l 0)⟩] [(11, 0)] []) (
  .seq (.seq (.reg false [⟨none, .mov (.r 11)⟩,
    ⟨none, .bin .eql (.l 0) (.v (.c (.d (.int .i64 0))))⟩] [(15, 0)] []) (
  .cond (.r 15) (
  .reg false [⟨none, .ld true 4 (.r 3)⟩,
    ⟨none, .vc 23 [(.l 0)]⟩,
    ⟨none, .mov (.l 0)⟩] [(11, 0)] []) (
  .skip))) (
  .seq (.seq (.reg false [⟨none, .mov (.r 11)⟩,
    ⟨none, .bin .neq (.l 0) (.v (.c (.d (.int .i64 0))))⟩] [(16, 0)] []) (
  .cond (.r 16) (
  .seq (.reg false [⟨none, .mov (.r 6)⟩,
    ⟨none, .mov (.r 11)⟩,
    ⟨none, .bin .eql (.l 1) (.l 0)⟩,
    ⟨none, .mov (.l 0)⟩,
    ⟨some (0, true), .ld true 4 (.r 5)⟩,
    ⟨some (1, true), .bld [.nils, .bool false, .bool false, .bool false] []⟩,
    ⟨some (2, true), .vc 24 [(.l 1), (.l 0)]⟩,
    ⟨some (3, true), .bin .eql (.l 0) (.v (.c (.d (.int .i64 1))))⟩,
    ⟨none, .pick (.l 4) (.l 0) (.v (.c (.d (.bool false))))⟩,
    ⟨none, .mov (.l 0)⟩,
    ⟨some (0, true), .vc 16 []⟩,
    ⟨none, .pick (.l 1) (.l 0) (.v (.c (.d (.bool false))))⟩,
    ⟨none, .mov (.l 0)⟩] [(4, 0)] []) (
  .ret)) (
  .skip))) (
  .seq (.reg true [⟨none, .mov (.r 6)⟩,
    ⟨none, .bin .eql (.l 0) (.v (.c (.d (.int .i64 0))))⟩,
    ⟨none, .mov (.l 0)⟩,
    ⟨some (0, true), .ld true 4 (.r 5)⟩,
    ⟨some (1, true), .fa 1 (.r 2)⟩,
    ⟨some (2, true), .ld false 1 (.l 0)⟩,
    ⟨some (3, true), .fa 0 (.r 3)⟩,
    ⟨some (4, true), .ld false 1 (.l 0)⟩,
    ⟨some (5, true), .vc 21 [(.l 2), (.l 0)]⟩,
    ⟨some (6, true), .fa 2 (.r 2)⟩,
    ⟨some (7, true), .ld false 1 (.l 0)⟩,
    ⟨some (8, true), .mov (.l 0)⟩,
    ⟨some (0, false), .fa 1 (.r 3)⟩,
    ⟨some (1, false), .ld false 1 (.l 0)⟩,
    ⟨some (11, true), .pick (.l 2) (.v (.c (.d (.bool true)))) (.l 0)⟩,
    ⟨some (12, true), .fa 3 (.r 2)⟩,
    ⟨some (13, true), .ld false 1 (.l 0)⟩,
    ⟨some (14, true), .mov (.l 0)⟩,
    ⟨some (0, false), .fa 2 (.r 3)⟩,
    ⟨some (1, false), .ld false 1 (.l 0)⟩,
    ⟨some (17, true), .pick (.l 2) (.v (.c (.d (.bool true)))) (.l 0)⟩,
    ⟨some (18, true), .fa 4 (.r 2)⟩,
    ⟨some (19, true), .ld false 1 (.l 0)⟩,
    ⟨some (20, true), .mov (.l 0)⟩,
    ⟨some (0, false), .fa 3 (.r 3)⟩,
    ⟨some (1, false), .ld false 1 (.l 0)⟩,
    ⟨some (23, true), .pick (.l 2) (.v (.c (.d (.bool true)))) (.l 0)⟩,
    ⟨some (24, true), .bld [.nils, .bool false, .bool false, .bool false] [(0, 1, (.l 18)), (1, 1, (.l 12)), (2, 1, (.l 6)), (3, 1, (.l 0))]⟩,
    ⟨some (25, true), .vc 24 [(.l 24), (.l 0)]⟩,
    ⟨some (26, true), .bin .eql (.l 0) (.v (.c (.d (.int .i64 1))))⟩,
    ⟨none, .pick (.l 27) (.l 0) (.v (.c (.d (.bool false))))⟩,
    ⟨none, .mov (.l 0)⟩,
    ⟨some (0, true), .vc 16 []⟩,
    ⟨none, .pick (.l 1) (.l 0) (.v (.c (.d (.bool false))))⟩,
    ⟨none, .mov (.l 0)⟩] [(4, 0)] []) (
  .ret)))))))))))⟩
theorem fn3_is : fn3 = fn3' := rfl

def fn22' : Fn := ⟨1, 7, [0, 1, 2, 3, 7, 12, 17], [.r 2],
  .seq (.reg false [⟨none, .box (.r 0)⟩,
    ⟨none, .mov (.v (.c (.d (.int .i64 0))))⟩] [(1, 1), (2, 0)] []) (
  .seq (.seq (.reg false [⟨none, .fa 0 (.r 1)⟩,
    ⟨none, .ld false 1 (.l 0)⟩,
    ⟨none, .vc 56 [(.l 0)]⟩,
    ⟨none, .un .not (.l 0)⟩] [(4, 0)] []) (
  .cond (.r 4) (
  .seq (.reg false [⟨none, .mov (.v (.c (.d (.int .i64 18))))⟩] [(2, 0)] []) (
  .ret)) (
  .skip))) (
  .seq (.seq (.reg false [⟨none, .fa 1 (.r 1)⟩,
    ⟨none, .ld false 1 (.l 0)⟩,
    ⟨none, .vc 19 [(.l 0)]⟩,
    ⟨none, .mov (.l 0)⟩] [(3, 0)] []) (
  .seq (.reg false [⟨none, .mov (.r 3)⟩,
    ⟨none, .bin .neq (.l 0) (.v (.c (.d (.int .i64 0))))⟩] [(5, 0)] []) (
  .cond (.r 5) (
  .seq (.reg false [⟨none, .mov (.r 3)⟩,
    ⟨none, .mov (.l 0)⟩] [(2, 0)] []) (
  .ret)) (
  .skip)))) (
  .seq (.seq (.reg false [⟨none, .fa 1 (.r 1)⟩,
    ⟨none, .ld false 1 (.l 0)⟩,
    ⟨none, .len (.l 0)⟩,
    ⟨none, .bin .eql (.l 0) (.v (.c (.d (.int .i64 0))))⟩] [(6, 0)] []) (
  .cond (.r 6) (
  .seq (.reg false [⟨none, .mov (.v (.c (.d (.int .i64 17))))⟩] [(2, 0)] []) (
  .ret)) (
  .skip))) (
  .seq (.reg false [⟨none, .mov (.v (.c (.d (.int .i64 0))))⟩] [(2, 0)] []) (
  .ret)))))⟩
theorem fn22_is : fn22 = fn22' := rfl

def fn24' : Fn := ⟨2, 6, [0, 1, 2, 3, 4, 23], [.r 4],
  .seq (.reg false [⟨none, .box (.r 0)⟩,
    ⟨none, .box (.r 1)⟩,
    ⟨none, .mov (.v (.c (.d (.int .i64 0))))⟩] [(2, 2), (3, 1), (4, 0)] []) (
  .seq (.seq (.reg false [⟨none, .fa 1 (.r 2)⟩,
    ⟨none, .ld false 1 (.l 0)⟩,
    ⟨none, .fa 1 (.r 3)⟩,
    ⟨none, .ld false 1 (.l 0)⟩,
    ⟨none, .beq true (.l 2) (.l 0)⟩,
    ⟨none, .mov (.l 0)⟩,
    ⟨some (0, false), .fa 2 (.r 2)⟩,
    ⟨some (1, false), .ld false 1 (.l 0)⟩,
    ⟨some (2, false), .fa 2 (.r 3)⟩,
    ⟨some (3, false), .ld false 1 (.l 0)⟩,
    ⟨some (4, false), .beq true (.l 2) (.l 0)⟩,
    ⟨none, .pick (.l 5) (.v (.c (.d (.bool true)))) (.l 0)⟩,
    ⟨none, .mov (.l 0)⟩,
    ⟨some (0, false), .fa 3 (.r 2)⟩,
    ⟨some (1, false), .ld false 1 (.l 0)⟩,
    ⟨some (2, false), .fa 3 (.r 3)⟩,
    ⟨some (3, false), .ld false 1 (.l 0)⟩,
    ⟨some (4, false), .beq true (.l 2) (.l 0)⟩,
    ⟨none, .pick (.l 5) (.v (.c (.d (.bool true)))) (.l 0)⟩] [(5, 0)] []) (
  .cond (.r 5) (
  .seq (.reg false [⟨none, .mov (.v (.c (.d (.int .i64 0))))⟩] [(4, 0)] []) (
  .ret)) (
  .skip))) (
  .seq (.reg false [⟨none, .fa 0 (.r 2)⟩,
    ⟨none, .ld false 1 (.l 0)⟩,
    ⟨none, .fa 0 (.r 3)⟩,
    ⟨none, .ld false 1 (.l 0)⟩,
    ⟨none, .vc 20 [(.l 2), (.l 0)]⟩,
    ⟨none, .mov (.l 0)⟩] [(4, 0)] []) (
  .ret)))⟩
theorem fn24_is : fn24 = fn24' := rfl

def fn33' : Fn := ⟨1, 7, [0, 1, 2, 3, 7, 12, 17], [.r 2],
  .seq (.reg false [⟨none, .box (.r 0)⟩,
    ⟨none, .mov (.v (.c (.d (.int .i64 0))))⟩] [(1, 1), (2, 0)] []) (
  .seq (.seq (.reg false [⟨none, .fa 0 (.r 1)⟩,
    ⟨none, .ld false 1 (.l 0)⟩,
    ⟨none, .vc 70 [(.l 0)]⟩,
    ⟨none, .un .not (.l 0)⟩] [(4, 0)] []) (
  .cond (.r 4) (
  .seq (.reg false [⟨none, .mov (.v (.c (.d (.int .i64 18))))⟩] [(2, 0)] []) (
  .ret)) (
  .skip))) (
  .seq (.seq (.reg false [⟨none, .fa 1 (.r 1)⟩,
    ⟨none, .ld false 1 (.l 0)⟩,
    ⟨none, .vc 19 [(.l 0)]⟩,
    ⟨none, .mov (.l 0)⟩] [(3, 0)] []) (
  .seq (.reg false [⟨none, .mov (.r 3)⟩,
    ⟨none, .bin .neq (.l 0) (.v (.c (.d (.int .i64 0))))⟩] [(5, 0)] []) (
  .cond (.r 5) (
  .seq (.reg false [⟨none, .mov (.r 3)⟩,
    ⟨none, .mov (.l 0)⟩] [(2, 0)] []) (
  .ret)) (
  .skip)))) (
  .seq (.seq (.reg false [⟨none, .fa 1 (.r 1)⟩,
    ⟨none, .ld false 1 (.l 0)⟩,
    ⟨none, .len (.l 0)⟩,
    ⟨none, .bin .eql (.l 0) (.v (.c (.d (.int .i64 0))))⟩] [(6, 0)] []) (
  .cond (.r 6) (
  .seq (.reg false [⟨none, .mov (.v (.c (.d (.int .i64 17))))⟩] [(2, 0)] []) (
  .ret)) (
  .skip))) (
  .seq (.reg false [⟨none, .mov (.v (.c (.d (.int .i64 0))))⟩] [(2, 0)] []) (
  .ret)))))⟩
theorem fn33_is : fn33 = fn33' := rfl

def fn17' : Fn := ⟨2, 10, [0, 1, 2, 3, 4, 5, 6, 7, 11, 17], [.cell 4 4 true, .r 5],
  .seq (.reg false [⟨none, .box (.r 0)⟩,
    ⟨none, .box (.r 1)⟩,
    ⟨none, .new [.nils, .bool false, .bool false, .bool false]⟩,
    ⟨none, .mov (.v (.c (.d (.int .i64 0))))⟩] [(2, 3), (3, 2), (4, 1), (5, 0)] []) (
  .seq (.seq (.reg false [⟨none, .ld true 5 (.r 2)⟩,
    ⟨none, .vc 33 [(.l 0)]⟩,
    ⟨none, .mov (.l 0)⟩] [(6, 0)] []) (
  .seq (.reg false [⟨none, .mov (.r 6)⟩,
    ⟨none, .bin .neq (.l 0) (.v (.c (.d (.int .i64 0))))⟩] [(8, 0)] []) (
  .cond (.r 8) (
  .seq (.reg false [⟨none, .bld [.nils, .bool false, .bool false, .bool false] []⟩,
    ⟨none, .mov (.r 6)⟩,
    ⟨none, .st 4 (.r 4) (.l 1)⟩,
    ⟨none, .mov (.l 1)⟩] [(5, 0)] []) (
  .ret)) (
  .skip)))) (
  .seq (.seq (.reg false [⟨none, .ld true 4 (.r 3)⟩,
    ⟨none, .vc 23 [(.l 0)]⟩,
    ⟨none, .mov (.l 0)⟩] [(7, 0)] []) (
  .seq (.reg false [⟨none, .mov (.r 7)⟩,
    ⟨none, .bin .neq (.l 0) (.v (.c (.d (.int .i64 0))))⟩] [(9, 0)] []) (
  .cond (.r 9) (
  .seq (.reg false [⟨none, .bld [.nils, .bool false, .bool false, .bool false] []⟩,
    ⟨none, .mov (.r 7)⟩,
    ⟨none, .st 4 (.r 4) (.l 1)⟩,
    ⟨none, .mov (.l 1)⟩] [(5, 0)] []) (
  .ret)) (
  .skip)))) (
  .seq (.reg true [⟨none, .fa 1 (.r 2)⟩,
    ⟨none, .ld false 1 (.l 0)⟩,
    ⟨none, .fa 0 (.r 3)⟩,
    ⟨none, .ld false 1 (.l 0)⟩,
    ⟨none, .vc 52 [(.l 2), (.l 0)]⟩,
    ⟨none, .fa 2 (.r 2)⟩,
    ⟨none, .ld false 1 (.l 0)⟩,
    ⟨none, .mov (.l 0)⟩,
    ⟨some (0, false), .fa 1 (.r 3)⟩,
    ⟨some (1, false), .ld false 1 (.l 0)⟩,
    ⟨none, .pick (.l 2) (.v (.c (.d (.bool true)))) (.l 0)⟩,
    ⟨none, .fa 3 (.r 2)⟩,
    ⟨none, .ld false 1 (.l 0)⟩,
    ⟨none, .mov (.l 0)⟩,
    ⟨some (0, false), .fa 2 (.r 3)⟩,
    ⟨some (1, false), .ld false 1 (.l 0)⟩,
    ⟨none, .pick (.l 2) (.v (.c (.d (.bool true)))) (.l 0)⟩,
    ⟨none, .fa 4 (.r 2)⟩,
    ⟨none, .ld false 1 (.l 0)⟩,
    ⟨none, .mov (.l 0)⟩,
    ⟨some (0, false), .fa 3 (.r 3)⟩,
    ⟨some (1, false), .ld false 1 (.l 0)⟩,
    ⟨none, .pick (.l 2) (.v (.c (.d (.bool true)))) (.l 0)⟩,
    ⟨none, .bld [.nils, .bool false, .bool false, .bool false] [(0, 1, (.l 18)), (1, 1, (.l 12)), (2, 1, (.l 6)), (3, 1, (.l 0))]⟩,
    ⟨none, .st 4 (.r 4) (.l 0)⟩,
    ⟨none, .mov (.v (.c (.d (.int .i64 0))))⟩] [(5, 0)] []) (
  .ret))))⟩
theorem fn17_is : fn17 = fn17' := rfl

def fn18' : Fn := ⟨2, 8, [0, 1, 4, 5, 6, 7, 11, 16], [.r 2, .r 3],
  .seq (.reg false [⟨none, .mov (.v (.c (.d (.nils))))⟩,
    ⟨none, .mov (.v (.c (.d (.int .i64 0))))⟩] [(2, 1), (3, 0)] []) (
  .seq (.seq (.reg false [⟨none, .mov (.r 0)⟩,
    ⟨none, .vc 19 [(.l 0)]⟩,
    ⟨none, .mov (.l 0)⟩] [(4, 0)] []) (
  .seq (.reg false [⟨none, .mov (.r 4)⟩,
    ⟨none, .bin .neq (.l 0) (.v (.c (.d (.int .i64 0))))⟩] [(6, 0)] []) (
  .cond (.r 6) (
  .seq (.reg false [⟨none, .mov (.r 4)⟩,
    ⟨none, .mov (.v (.c (.d (.nils))))⟩,
    ⟨none, .mov (.l 1)⟩] [(2, 1), (3, 0)] []) (
  .ret)) (
  .skip)))) (
  .seq (.seq (.reg false [⟨none, .mov (.r 1)⟩,
    ⟨none, .vc 19 [(.l 0)]⟩,
    ⟨none, .mov (.l 0)⟩] [(5, 0)] []) (
  .seq (.reg false [⟨none, .mov (.r 5)⟩,
    ⟨none, .bin .neq (.l 0) (.v (.c (.d (.int .i64 0))))⟩] [(7, 0)] []) (
  .cond (.r 7) (
  .seq (.reg false [⟨none, .mov (.r 5)⟩,
    ⟨none, .mov (.v (.c (.d (.nils))))⟩,
    ⟨none, .mov (.l 1)⟩] [(2, 1), (3, 0)] []) (
  .ret)) (
  .skip)))) (
  .seq (.reg false [⟨none, .mov (.r 0)⟩,
    ⟨none, .mov (.r 1)⟩,
    ⟨none, .hc (.v (.c (.d (.fn 52 [] [])))) [(.l 1), (.l 0)]⟩,
    ⟨none, .mov (.l 0)⟩,
    ⟨none, .mov (.v (.c (.d (.int .i64 0))))⟩] [(2, 1), (3, 0)] []) (
  .ret))))⟩
theorem fn18_is : fn18 = fn18' := rfl

def fn67' : Fn := ⟨1, 4, [0, 2, 3, 6], [.r 1],
  .seq (.reg false [⟨none, .mov (.v (.c (.d (.nils))))⟩] [(1, 0)] []) (
  .seq (.seq (.reg false [⟨none, .mov (.r 0)⟩,
    ⟨none, .len (.l 0)⟩,
    ⟨none, .bin .eql (.l 0) (.v (.c (.d (.int .i64 0))))⟩] [(3, 0)] []) (
  .cond (.r 3) (
  .seq (.reg false [⟨none, .mov (.v (.c (.d (.nils))))⟩] [(1, 0)] []) (
  .ret)) (
  .skip))) (
  .seq (.reg false [⟨none, .mov (.r 0)⟩,
    ⟨none, .len (.l 0)⟩,
    ⟨none, .mks 17 68 [.int .u8 0, .int .u32 0, .int .u32 0, .int .u32 0, .int .u32 0, .int .u32 0, .int .u32 0, .int .u32 0, .int .u32 0, .int .u32 0, .int .u32 0, .int .u32 0, .int .u32 0, .int .u32 0, .int .u32 0, .int .u32 0, .int .u32 0] (.l 0) (.l 0)⟩,
    ⟨none, .mov (.l 0)⟩] [(2, 0)] []) (
  .seq (.reg false [⟨none, .mov (.r 2)⟩,
    ⟨none, .mov (.r 0)⟩,
    ⟨none, .cpy 17 (.l 1) (.l 0)⟩] [] []) (
  .seq (.reg false [⟨none, .mov (.r 2)⟩,
    ⟨none, .mov (.l 0)⟩] [(1, 0)] []) (
  .ret)))))⟩
theorem fn67_is : fn67 = fn67' := rfl

def fn84' : Fn := ⟨2, 4, [0, 1, 3, 4], [.r 3],
  .seq (.reg false [⟨none, .box (.r 1)⟩,
    ⟨none, .mov (.v (.c (.d (.bool false))))⟩] [(2, 1), (3, 0)] []) (
  .seq (.reg false [⟨none, .mov (.r 0)⟩,
    ⟨none, .ld true 17 (.r 2)⟩,
    ⟨none, .vc 108 [(.l 1), (.l 0)]⟩,
    ⟨none, .bin .geq (.l 0) (.v (.c (.d (.int .i64 0))))⟩,
    ⟨none, .mov (.l 0)⟩] [(3, 0)] []) (
  .ret))⟩
theorem fn84_is : fn84 = fn84' := rfl

def fn86' : Fn := ⟨1, 2, [0, 2], [.r 1],
  .seq (.reg false [⟨none, .mov (.v (.c (.d (.nils))))⟩] [(1, 0)] []) (
  .seq (.reg true [⟨none, .mov (.r 0)⟩,
    ⟨none, .nlc (.l 0)⟩,
    ⟨none, .fa 1 (.l 0)⟩,
    ⟨none, .mov (.r 0)⟩,
    ⟨none, .nlc (.l 0)⟩,
    ⟨none, .fa 0 (.l 0)⟩,
    ⟨none, .ld false 1 (.l 0)⟩,
    ⟨none, .cvi .i64 (.l 0)⟩,
    ⟨none, .mm false (.l 0) (.v (.c (.d (.int .i64 16))))⟩,
    ⟨none, .slp 16 1 (.l 6) none (some (.l 0)) none⟩,
    ⟨none, .mov (.l 0)⟩] [(1, 0)] []) (
  .ret))⟩
theorem fn86_is : fn86 = fn86' := rfl

def fn54' : Fn := ⟨2, 5, [0, 1, 2, 3, 4], [.r 4],
  .seq (.reg false [⟨none, .box (.r 0)⟩,
    ⟨none, .box (.r 1)⟩,
    ⟨none, .mov (.v (.c (.d (.int .i64 0))))⟩] [(2, 2), (3, 1), (4, 0)] []) (
  .seq (.reg false [⟨none, .hc (.v (.c (.d (.fn 86 [] [])))) [(.r 2)]⟩,
    ⟨none, .hc (.v (.c (.d (.fn 86 [] [])))) [(.r 3)]⟩,
    ⟨none, .vc 85 [(.l 1), (.l 0)]⟩,
    ⟨none, .mov (.l 0)⟩] [(4, 0)] []) (
  .ret))⟩
theorem fn54_is : fn54 = fn54' := rfl

def fn109' : Fn := ⟨2, 10, [0, 1, 4, 5, 6, 11, 12, 13, 16, 19], [.r 2],
  .seq (.reg false [⟨none, .mov (.v (.c (.d (.int .i64 0))))⟩] [(2, 0)] []) (
  .seq (.reg false [⟨none, .mov (.r 0)⟩,
    ⟨none, .vc 135 [(.l 0)]⟩,
    ⟨none, .mov (.l 0)⟩] [(3, 0)] []) (
  .seq (.reg false [⟨none, .mov (.r 1)⟩,
    ⟨none, .vc 135 [(.l 0)]⟩,
    ⟨none, .mov (.l 0)⟩] [(4, 0)] []) (
  .seq (.seq (.reg false [⟨none, .mov (.r 3)⟩] [(5, 0)] []) (
  .cond (.r 5) (
  .seq (.seq (.reg false [⟨none, .mov (.r 4)⟩] [(6, 0)] []) (
  .cond (.r 6) (
  .seq (.reg false [⟨none, .mov (.v (.c (.d (.int .i64 0))))⟩] [(2, 0)] []) (
  .ret)) (
  .skip))) (
  .seq (.reg false [⟨none, .mov (.v (.c (.d (.int .i64 (-1)))))⟩] [(2, 0)] []) (
  .ret))) (
  .skip))) (
  .seq (.seq (.reg false [⟨none, .mov (.r 4)⟩] [(7, 0)] []) (
  .cond (.r 7) (
  .seq (.reg false [⟨none, .mov (.v (.c (.d (.int .i64 1))))⟩] [(2, 0)] []) (
  .ret)) (
  .skip))) (
  .seq (.seq (.reg false [⟨none, .mov (.r 0)⟩,
    ⟨none, .mov (.r 1)⟩,
    ⟨none, .bin .lss (.l 1) (.l 0)⟩] [(8, 0)] []) (
  .cond (.r 8) (
  .seq (.reg false [⟨none, .mov (.v (.c (.d (.int .i64 (-1)))))⟩] [(2, 0)] []) (
  .ret)) (
  .skip))) (
  .seq (.seq (.reg false [⟨none, .mov (.r 0)⟩,
    ⟨none, .mov (.r 1)⟩,
    ⟨none, .bin .gtr (.l 1) (.l 0)⟩] [(9, 0)] []) (
  .cond (.r 9) (
  .seq (.reg false [⟨none, .mov (.v (.c (.d (.int .i64 1))))⟩] [(2, 0)] []) (
  .ret)) (
  .skip))) (
  .seq (.reg false [⟨none, .mov (.v (.c (.d (.int .i64 0))))⟩] [(2, 0)] []) (
  .ret))))))))⟩
theorem fn109_is : fn109 = fn109' := rfl

def fn135' : Fn := ⟨1, 2, [0, 2], [.r 1],
  .seq (.reg false [⟨none, .mov (.v (.c (.d (.bool false))))⟩] [(1, 0)] []) (
  .seq (.reg false [⟨none, .mov (.r 0)⟩,
    ⟨none, .mov (.r 0)⟩,
    ⟨none, .bin .neq (.l 1) (.l 0)⟩,
    ⟨none, .mov (.l 0)⟩] [(1, 0)] []) (
  .ret))⟩
theorem fn135_is : fn135 = fn135' := rfl

def fn23' : Fn := ⟨1, 3, [0, 1, 2], [.r 2],
  .seq (.reg false [⟨none, .box (.r 0)⟩,
    ⟨none, .mov (.v (.c (.d (.int .i64 0))))⟩] [(1, 1), (2, 0)] []) (
  .seq (.reg false [⟨none, .fa 0 (.r 1)⟩,
    ⟨none, .ld false 1 (.l 0)⟩,
    ⟨none, .vc 19 [(.l 0)]⟩,
    ⟨none, .mov (.l 0)⟩] [(2, 0)] []) (
  .ret))⟩
theorem fn23_is : fn23 = fn23' := rfl

end Mini
end Go.Proofs.YtgjlofpfbhioaaaGreatDoor
