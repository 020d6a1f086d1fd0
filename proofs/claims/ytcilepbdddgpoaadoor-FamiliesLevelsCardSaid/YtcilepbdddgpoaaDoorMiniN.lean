/-
  Forms of functions, each loop by a name of its own. Printed by a program of ours (tools/mkloop.py).
-/
import Derived.Test.YtcilepbdddgpoaaDoorMiniM
namespace Go.Proofs.YtcilepbdddgpoaaDoor
namespace Mini

def fn10L0 : I := .seq (.reg false [⟨none, .bin .lss (.r 19) (.r 18)⟩] [(20, 0)] []) (
  .seq (.cond (.r 20) (
  .skip) (
  .exit 6)) (
  .seq (.block 7 (
  .seq (.reg false [⟨none, .mov (.r 19)⟩,
    ⟨none, .mov (.l 0)⟩] [(8, 0)] []) (
  .reg false [⟨none, .mov (.r 4)⟩,
    ⟨none, .mov (.r 8)⟩,
    ⟨none, .ixa 1 (.l 1) (.l 0)⟩,
    ⟨none, .ld false 1 (.l 0)⟩,
    ⟨none, .bin .add (.l 0) (.v (.c (.d (.int .u8 48))))⟩,
    ⟨none, .ixa 1 (.l 4) (.l 3)⟩,
    ⟨none, .st 1 (.l 0) (.l 1)⟩] [] []))) (
  .reg false [⟨none, .bin .add (.r 19) (.v (.c (.d (.int .i64 1))))⟩,
    ⟨none, .mov (.l 0)⟩] [(19, 0)] [])))

def fn10L1 : I := .seq (.seq (.reg false [⟨none, .mov (.r 5)⟩,
    ⟨none, .bin .gtr (.l 0) (.v (.c (.d (.int .i64 0))))⟩] [(17, 0)] []) (
  .cond (.r 17) (
  .skip) (
  .exit 4))) (
  .seq (.block 5 (
  .reg false [⟨none, .mov (.r 4)⟩,
    ⟨none, .mov (.r 5)⟩,
    ⟨none, .bin .rem (.l 0) (.v (.c (.d (.int .i64 10))))⟩,
    ⟨none, .cvi .u8 (.l 0)⟩,
    ⟨none, .bsl 1 1 [.int .u8 0] [(0, 1, (.l 0))]⟩,
    ⟨none, .app 1 (.l 4) (.l 0)⟩,
    ⟨none, .mov (.l 0)⟩] [(4, 0)] [])) (
  .reg false [⟨none, .mov (.r 5)⟩,
    ⟨none, .bin .quo (.l 0) (.v (.c (.d (.int .i64 10))))⟩,
    ⟨none, .mov (.l 0)⟩] [(5, 0)] []))

def fn10L2 : I := .seq (.reg false [⟨none, .bin .lss (.r 15) (.r 14)⟩] [(16, 0)] []) (
  .seq (.cond (.r 16) (
  .skip) (
  .exit 2)) (
  .seq (.block 3 (
  .seq (.reg false [⟨none, .mov (.r 15)⟩,
    ⟨none, .ixa 1 (.r 13) (.r 15)⟩,
    ⟨none, .ld false 1 (.l 0)⟩,
    ⟨none, .mov (.l 2)⟩,
    ⟨none, .mov (.l 1)⟩] [(6, 1), (7, 0)] []) (
  .seq (.reg false [⟨none, .mov (.r 5)⟩,
    ⟨none, .mov (.r 7)⟩,
    ⟨none, .cvi .i64 (.l 0)⟩,
    ⟨none, .mov (.r 1)⟩,
    ⟨none, .bin .mul (.l 1) (.l 0)⟩,
    ⟨none, .bin .add (.l 4) (.l 0)⟩,
    ⟨none, .mov (.l 0)⟩] [(5, 0)] []) (
  .seq (.reg false [⟨none, .mov (.r 4)⟩,
    ⟨none, .mov (.r 6)⟩,
    ⟨none, .mov (.r 5)⟩,
    ⟨none, .bin .rem (.l 0) (.v (.c (.d (.int .i64 10))))⟩,
    ⟨none, .cvi .u8 (.l 0)⟩,
    ⟨none, .ixa 1 (.l 4) (.l 3)⟩,
    ⟨none, .st 1 (.l 0) (.l 1)⟩] [] []) (
  .reg false [⟨none, .mov (.r 5)⟩,
    ⟨none, .bin .quo (.l 0) (.v (.c (.d (.int .i64 10))))⟩,
    ⟨none, .mov (.l 0)⟩] [(5, 0)] []))))) (
  .reg false [⟨none, .bin .add (.r 15) (.v (.c (.d (.int .i64 1))))⟩,
    ⟨none, .mov (.l 0)⟩] [(15, 0)] [])))

def fn10L3 : I := .seq (.reg false [⟨none, .bin .lss (.r 11) (.r 10)⟩] [(12, 0)] []) (
  .seq (.cond (.r 12) (
  .skip) (
  .exit 0)) (
  .seq (.block 1 (
  .seq (.reg false [⟨none, .mov (.v (.c (.d (.int .i64 1))))⟩] [(5, 0)] []) (
  .seq (.seq (.reg false [⟨none, .mov (.r 4)⟩,
    ⟨none, .len (.l 0)⟩,
    ⟨none, .mov (.v (.c (.d (.int .i64 0))))⟩] [(13, 2), (14, 1), (15, 0)] []) (
  .block 2 (
  .loop (some [1, 4, 5, 10, 11, 13, 14, 15]) fn10L2))) (
  .block 4 (
  .seq (.fresh 4 none 1) (
  .loop (some [1, 4, 5, 10, 11]) fn10L1)))))) (
  .reg false [⟨none, .bin .add (.r 11) (.v (.c (.d (.int .i64 1))))⟩,
    ⟨none, .mov (.l 0)⟩] [(11, 0)] [])))

def fn10' : Fn := ⟨2, 21, [0, 1, 4, 5, 6, 7, 8, 9, 10, 18, 20, 21, 22, 23, 24, 25, 26, 46, 59, 60, 61], [.r 2, .r 3],
  .seq (.reg false [⟨none, .mov (.v (.c (.d (.str []))))⟩,
    ⟨none, .mov (.v (.c (.d (.int .i64 0))))⟩] [(2, 1), (3, 0)] []) (
  .seq (.seq (.reg false [⟨none, .mov (.r 0)⟩,
    ⟨none, .vc 27 [(.l 0), (.v (.c (.d (.int .i64 1)))), (.v (.c (.d (.int .i64 64))))]⟩,
    ⟨none, .un .not (.l 0)⟩,
    ⟨none, .mov (.l 0)⟩,
    ⟨some (0, false), .mov (.r 1)⟩,
    ⟨some (1, false), .vc 27 [(.l 0), (.v (.c (.d (.int .i64 1)))), (.v (.c (.d (.int .i64 8))))]⟩,
    ⟨some (2, false), .un .not (.l 0)⟩,
    ⟨none, .pick (.l 3) (.v (.c (.d (.bool true)))) (.l 0)⟩] [(9, 0)] []) (
  .cond (.r 9) (
  .seq (.reg false [⟨none, .mov (.v (.c (.d (.str []))))⟩,
    ⟨none, .mov (.v (.c (.d (.int .i64 1))))⟩] [(2, 1), (3, 0)] []) (
  .ret)) (
  .skip))) (
  .seq (.reg false [⟨none, .bsl 1 1 [.int .u8 0] [(0, 1, (.v (.c (.d (.int .u8 1)))))]⟩,
    ⟨none, .mov (.l 0)⟩] [(4, 0)] []) (
  .seq (.seq (.reg false [⟨none, .mov (.r 0)⟩,
    ⟨none, .mov (.v (.c (.d (.int .i64 0))))⟩] [(10, 1), (11, 0)] []) (
  .block 0 (
  .seq (.fresh 4 none 1) (
  .loop (some [1, 4, 10, 11]) fn10L3)))) (
  .seq (.reg false [⟨none, .mov (.r 4)⟩,
    ⟨none, .hc (.v (.c (.d (.fn 31 [] [])))) [(.l 0)]⟩] [] []) (
  .seq (.seq (.reg false [⟨none, .mov (.r 4)⟩,
    ⟨none, .len (.l 0)⟩,
    ⟨none, .mov (.v (.c (.d (.int .i64 0))))⟩] [(18, 1), (19, 0)] []) (
  .block 6 (
  .loop (some [4, 18, 19]) fn10L0))) (
  .seq (.reg false [⟨none, .mov (.r 4)⟩,
    ⟨none, .b2s (.l 0)⟩,
    ⟨none, .mov (.l 0)⟩,
    ⟨none, .mov (.v (.c (.d (.int .i64 0))))⟩] [(2, 1), (3, 0)] []) (
  .ret)))))))⟩
theorem fn10_is : fn10 = fn10' := rfl

def fn31L0 : I := .seq (.seq (.reg false [⟨none, .mov (.r 1)⟩,
    ⟨none, .mov (.r 2)⟩,
    ⟨none, .bin .lss (.l 1) (.l 0)⟩] [(3, 0)] []) (
  .cond (.r 3) (
  .skip) (
  .exit 0))) (
  .seq (.block 1 (
  .reg true [⟨none, .mov (.r 0)⟩,
    ⟨none, .mov (.r 1)⟩,
    ⟨none, .mov (.r 0)⟩,
    ⟨none, .mov (.r 2)⟩,
    ⟨none, .mov (.r 0)⟩,
    ⟨none, .mov (.r 2)⟩,
    ⟨none, .ixa 1 (.l 1) (.l 0)⟩,
    ⟨none, .ld false 1 (.l 0)⟩,
    ⟨none, .mov (.r 0)⟩,
    ⟨none, .mov (.r 1)⟩,
    ⟨none, .ixa 1 (.l 1) (.l 0)⟩,
    ⟨none, .ld false 1 (.l 0)⟩,
    ⟨none, .ixa 1 (.l 11) (.l 10)⟩,
    ⟨none, .st 1 (.l 0) (.l 5)⟩,
    ⟨none, .ixa 1 (.l 11) (.l 10)⟩,
    ⟨none, .st 1 (.l 0) (.l 3)⟩] [] [])) (
  .reg false [⟨none, .mov (.r 1)⟩,
    ⟨none, .bin .add (.l 0) (.v (.c (.d (.int .i64 1))))⟩,
    ⟨none, .mov (.r 2)⟩,
    ⟨none, .bin .sub (.l 0) (.v (.c (.d (.int .i64 1))))⟩,
    ⟨none, .mov (.l 2)⟩,
    ⟨none, .mov (.l 1)⟩] [(1, 1), (2, 0)] []))

def fn31' : Fn := ⟨1, 4, [0, 2, 3, 9], [],
  .seq (.reg false [⟨none, .mov (.r 0)⟩,
    ⟨none, .len (.l 0)⟩,
    ⟨none, .bin .sub (.l 0) (.v (.c (.d (.int .i64 1))))⟩,
    ⟨none, .mov (.v (.c (.d (.int .i64 0))))⟩,
    ⟨none, .mov (.l 1)⟩] [(1, 1), (2, 0)] []) (
  .block 0 (
  .loop (some [0, 1, 2]) fn31L0))⟩
theorem fn31_is : fn31 = fn31' := rfl

def fn23L0 : I := .seq (.seq (.reg false [⟨none, .mov (.r 5)⟩,
    ⟨none, .bin .gtr (.l 0) (.v (.c (.d (.int .i64 0))))⟩] [(8, 0)] []) (
  .cond (.r 8) (
  .skip) (
  .exit 2))) (
  .block 3 (
  .seq (.reg false [⟨none, .mov (.r 5)⟩,
    ⟨none, .bin .rem (.l 0) (.v (.c (.d (.int .i64 10))))⟩,
    ⟨none, .bin .add (.v (.c (.d (.int .i64 48)))) (.l 0)⟩,
    ⟨none, .cvi .u8 (.l 0)⟩,
    ⟨none, .bsl 1 1 [.int .u8 0] [(0, 1, (.l 0))]⟩,
    ⟨none, .b2s (.l 0)⟩,
    ⟨none, .mov (.r 4)⟩,
    ⟨none, .bin .add (.l 1) (.l 0)⟩,
    ⟨none, .mov (.l 0)⟩] [(4, 0)] []) (
  .reg false [⟨none, .mov (.r 5)⟩,
    ⟨none, .bin .quo (.l 0) (.v (.c (.d (.int .i64 10))))⟩,
    ⟨none, .mov (.l 0)⟩] [(5, 0)] [])))

def fn23L1 : I := .seq (.seq (.reg false [⟨none, .mov (.r 6)⟩,
    ⟨none, .bin .geq (.l 0) (.v (.c (.d (.int .i64 0))))⟩] [(7, 0)] []) (
  .cond (.r 7) (
  .skip) (
  .exit 0))) (
  .seq (.block 1 (
  .seq (.reg false [⟨none, .mov (.r 5)⟩,
    ⟨none, .mov (.r 0)⟩,
    ⟨none, .mov (.r 6)⟩,
    ⟨none, .ixs (.l 1) (.l 0)⟩,
    ⟨none, .bin .sub (.l 0) (.v (.c (.d (.int .u8 48))))⟩,
    ⟨none, .cvi .i64 (.l 0)⟩,
    ⟨none, .mov (.r 1)⟩,
    ⟨none, .bin .mul (.l 1) (.l 0)⟩,
    ⟨none, .bin .add (.l 7) (.l 0)⟩,
    ⟨none, .mov (.l 0)⟩] [(5, 0)] []) (
  .seq (.reg false [⟨none, .mov (.r 5)⟩,
    ⟨none, .bin .rem (.l 0) (.v (.c (.d (.int .i64 10))))⟩,
    ⟨none, .bin .add (.v (.c (.d (.int .i64 48)))) (.l 0)⟩,
    ⟨none, .cvi .u8 (.l 0)⟩,
    ⟨none, .bsl 1 1 [.int .u8 0] [(0, 1, (.l 0))]⟩,
    ⟨none, .b2s (.l 0)⟩,
    ⟨none, .mov (.r 4)⟩,
    ⟨none, .bin .add (.l 1) (.l 0)⟩,
    ⟨none, .mov (.l 0)⟩] [(4, 0)] []) (
  .reg false [⟨none, .mov (.r 5)⟩,
    ⟨none, .bin .quo (.l 0) (.v (.c (.d (.int .i64 10))))⟩,
    ⟨none, .mov (.l 0)⟩] [(5, 0)] [])))) (
  .reg false [⟨none, .mov (.r 6)⟩,
    ⟨none, .bin .sub (.l 0) (.v (.c (.d (.int .i64 1))))⟩,
    ⟨none, .mov (.l 0)⟩] [(6, 0)] []))

def fn23' : Fn := ⟨3, 9, [0, 1, 2, 6, 7, 8, 9, 15, 38], [.r 3],
  .seq (.reg false [⟨none, .mov (.v (.c (.d (.str []))))⟩] [(3, 0)] []) (
  .seq (.reg false [⟨none, .mov (.v (.c (.d (.str []))))⟩] [(4, 0)] []) (
  .seq (.reg false [⟨none, .mov (.r 2)⟩,
    ⟨none, .mov (.l 0)⟩] [(5, 0)] []) (
  .seq (.seq (.reg false [⟨none, .mov (.r 0)⟩,
    ⟨none, .lns (.l 0)⟩,
    ⟨none, .bin .sub (.l 0) (.v (.c (.d (.int .i64 1))))⟩,
    ⟨none, .mov (.l 0)⟩] [(6, 0)] []) (
  .block 0 (
  .loop (some [0, 1, 4, 5, 6]) fn23L1))) (
  .seq (.block 2 (
  .loop (some [4, 5]) fn23L0)) (
  .seq (.reg false [⟨none, .mov (.r 4)⟩,
    ⟨none, .mov (.l 0)⟩] [(3, 0)] []) (
  .ret))))))⟩
theorem fn23_is : fn23 = fn23' := rfl

def fn24' : Fn := ⟨2, 4, [0, 1, 4, 9], [.r 2],
  .seq (.reg false [⟨none, .mov (.v (.c (.d (.bool false))))⟩] [(2, 0)] []) (
  .seq (.seq (.reg false [⟨none, .mov (.r 0)⟩,
    ⟨none, .lns (.l 0)⟩,
    ⟨none, .mov (.r 1)⟩,
    ⟨none, .lns (.l 0)⟩,
    ⟨none, .bin .neq (.l 2) (.l 0)⟩] [(3, 0)] []) (
  .cond (.r 3) (
  .seq (.reg false [⟨none, .mov (.r 0)⟩,
    ⟨none, .lns (.l 0)⟩,
    ⟨none, .mov (.r 1)⟩,
    ⟨none, .lns (.l 0)⟩,
    ⟨none, .bin .gtr (.l 2) (.l 0)⟩,
    ⟨none, .mov (.l 0)⟩] [(2, 0)] []) (
  .ret)) (
  .skip))) (
  .seq (.reg false [⟨none, .mov (.r 0)⟩,
    ⟨none, .mov (.r 1)⟩,
    ⟨none, .bin .gtr (.l 1) (.l 0)⟩,
    ⟨none, .mov (.l 0)⟩] [(2, 0)] []) (
  .ret)))⟩
theorem fn24_is : fn24 = fn24' := rfl

def fn6L0 : I := .seq (.seq (.reg false [⟨none, .mov (.r 7)⟩,
    ⟨none, .mov (.r 3)⟩,
    ⟨none, .bin .leq (.l 1) (.l 0)⟩] [(10, 0)] []) (
  .cond (.r 10) (
  .skip) (
  .exit 0))) (
  .seq (.block 1 (
  .seq (.reg false [⟨none, .mov (.r 5)⟩,
    ⟨none, .mov (.r 4)⟩,
    ⟨none, .vc 23 [(.l 1), (.l 0), (.v (.c (.d (.int .i64 1))))]⟩,
    ⟨none, .mov (.l 0)⟩] [(5, 0)] []) (
  .reg false [⟨none, .mov (.r 6)⟩,
    ⟨none, .vc 23 [(.l 0), (.v (.c (.d (.int .i64 2)))), (.v (.c (.d (.int .i64 0))))]⟩,
    ⟨none, .mov (.l 0)⟩] [(6, 0)] []))) (
  .reg false [⟨none, .mov (.r 7)⟩,
    ⟨none, .bin .add (.l 0) (.v (.c (.d (.int .i64 1))))⟩,
    ⟨none, .mov (.l 0)⟩] [(7, 0)] []))

def fn6' : Fn := ⟨2, 11, [0, 1, 4, 5, 6, 7, 8, 9, 10, 11, 22], [.r 2],
  .seq (.reg false [⟨none, .mov (.v (.c (.d (.bool false))))⟩] [(2, 0)] []) (
  .seq (.reg false [⟨none, .mov (.r 0)⟩,
    ⟨none, .bin .rem (.l 0) (.v (.c (.d (.int .u8 64))))⟩,
    ⟨none, .cvi .i64 (.l 0)⟩,
    ⟨none, .bin .add (.v (.c (.d (.int .i64 1)))) (.l 0)⟩,
    ⟨none, .mov (.r 1)⟩,
    ⟨none, .bin .rem (.l 0) (.v (.c (.d (.int .u8 8))))⟩,
    ⟨none, .cvi .i64 (.l 0)⟩,
    ⟨none, .bin .add (.v (.c (.d (.int .i64 1)))) (.l 0)⟩,
    ⟨none, .mov (.l 4)⟩,
    ⟨none, .mov (.l 1)⟩] [(3, 1), (4, 0)] []) (
  .seq (.reg false [⟨none, .mov (.v (.c (.d (.str [49]))))⟩,
    ⟨none, .mov (.v (.c (.d (.str [49]))))⟩] [(5, 1), (6, 0)] []) (
  .seq (.seq (.reg false [⟨none, .mov (.v (.c (.d (.int .i64 1))))⟩] [(7, 0)] []) (
  .block 0 (
  .loop (some [3, 4, 5, 6, 7]) fn6L0))) (
  .seq (.reg false [⟨none, .mov (.r 3)⟩,
    ⟨none, .mov (.r 4)⟩,
    ⟨none, .vc 10 [(.l 1), (.l 0)]⟩,
    ⟨none, .mov (.l 0)⟩,
    ⟨none, .ext (.l 0) 0⟩,
    ⟨none, .ext (.l 1) 1⟩,
    ⟨none, .mov (.l 1)⟩,
    ⟨none, .mov (.l 1)⟩] [(8, 1), (9, 0)] []) (
  .seq (.reg false [⟨none, .mov (.r 9)⟩,
    ⟨none, .bin .eql (.l 0) (.v (.c (.d (.int .i64 0))))⟩,
    ⟨none, .mov (.l 0)⟩,
    ⟨some (0, true), .mov (.r 8)⟩,
    ⟨some (1, true), .mov (.r 5)⟩,
    ⟨some (2, true), .bin .eql (.l 1) (.l 0)⟩,
    ⟨none, .pick (.l 3) (.l 0) (.v (.c (.d (.bool false))))⟩,
    ⟨none, .mov (.l 0)⟩,
    ⟨some (0, true), .mov (.r 4)⟩,
    ⟨some (1, true), .bin .eql (.l 0) (.v (.c (.d (.int .i64 1))))⟩,
    ⟨some (2, true), .mov (.l 0)⟩,
    ⟨some (0, false), .mov (.r 8)⟩,
    ⟨some (1, false), .mov (.r 6)⟩,
    ⟨some (2, false), .vc 24 [(.l 1), (.l 0)]⟩,
    ⟨some (6, true), .pick (.l 3) (.v (.c (.d (.bool true)))) (.l 0)⟩,
    ⟨none, .pick (.l 7) (.l 0) (.v (.c (.d (.bool false))))⟩,
    ⟨none, .mov (.l 0)⟩,
    ⟨some (0, true), .vc 13 []⟩,
    ⟨none, .pick (.l 1) (.l 0) (.v (.c (.d (.bool false))))⟩,
    ⟨none, .mov (.l 0)⟩] [(2, 0)] []) (
  .ret))))))⟩
theorem fn6_is : fn6 = fn6' := rfl

def fn9L0 : I := .seq (.reg false [⟨none, .bin .lss (.r 19) (.r 18)⟩] [(20, 0)] []) (
  .seq (.cond (.r 20) (
  .skip) (
  .exit 4)) (
  .seq (.block 5 (
  .seq (.reg false [⟨none, .mov (.r 19)⟩,
    ⟨none, .mov (.l 0)⟩] [(10, 0)] []) (
  .reg false [⟨none, .mov (.r 7)⟩,
    ⟨none, .mov (.r 9)⟩,
    ⟨none, .bin .add (.l 0) (.v (.c (.d (.int .i64 1))))⟩,
    ⟨none, .vc 28 [(.v (.c (.d (.int .i64 0)))), (.l 0)]⟩,
    ⟨none, .mov (.r 10)⟩,
    ⟨none, .bin .add (.l 0) (.v (.c (.d (.int .i64 1))))⟩,
    ⟨none, .vc 28 [(.v (.c (.d (.int .i64 0)))), (.l 0)]⟩,
    ⟨none, .bld [.int .u8 0, .int .u32 0, .int .u32 0, .int .u32 0, .int .u32 0, .int .u32 0, .int .u32 0, .int .u32 0, .int .u32 0, .int .u32 0, .int .u32 0, .int .u32 0, .int .u32 0, .int .u32 0, .int .u32 0, .int .u32 0, .int .u32 0, .int .u8 0, .int .u32 0, .int .u32 0, .int .u32 0, .int .u32 0, .int .u32 0, .int .u32 0, .int .u32 0, .int .u32 0, .int .u32 0, .int .u32 0, .int .u32 0, .int .u32 0, .int .u32 0, .int .u32 0, .int .u32 0, .int .u32 0] [(0, 17, (.l 3)), (17, 17, (.l 0))]⟩,
    ⟨none, .bsl 1 34 [.int .u8 0, .int .u32 0, .int .u32 0, .int .u32 0, .int .u32 0, .int .u32 0, .int .u32 0, .int .u32 0, .int .u32 0, .int .u32 0, .int .u32 0, .int .u32 0, .int .u32 0, .int .u32 0, .int .u32 0, .int .u32 0, .int .u32 0, .int .u8 0, .int .u32 0, .int .u32 0, .int .u32 0, .int .u32 0, .int .u32 0, .int .u32 0, .int .u32 0, .int .u32 0, .int .u32 0, .int .u32 0, .int .u32 0, .int .u32 0, .int .u32 0, .int .u32 0, .int .u32 0, .int .u32 0] [(0, 34, (.l 0))]⟩,
    ⟨none, .app 34 (.l 8) (.l 0)⟩,
    ⟨none, .mov (.l 0)⟩] [(7, 0)] []))) (
  .reg false [⟨none, .bin .add (.r 19) (.v (.c (.d (.int .i64 1))))⟩,
    ⟨none, .mov (.l 0)⟩] [(19, 0)] [])))

def fn9L1 : I := .seq (.reg false [⟨none, .bin .lss (.r 16) (.r 15)⟩] [(17, 0)] []) (
  .seq (.cond (.r 17) (
  .skip) (
  .exit 2)) (
  .seq (.block 3 (
  .seq (.reg false [⟨none, .mov (.r 16)⟩,
    ⟨none, .mov (.l 0)⟩] [(9, 0)] []) (
  .seq (.reg false [⟨none, .mov (.r 8)⟩,
    ⟨none, .mov (.r 9)⟩,
    ⟨none, .bin .add (.l 0) (.v (.c (.d (.int .i64 1))))⟩,
    ⟨none, .vc 28 [(.v (.c (.d (.int .i64 0)))), (.l 0)]⟩,
    ⟨none, .bsl 1 17 [.int .u8 0, .int .u32 0, .int .u32 0, .int .u32 0, .int .u32 0, .int .u32 0, .int .u32 0, .int .u32 0, .int .u32 0, .int .u32 0, .int .u32 0, .int .u32 0, .int .u32 0, .int .u32 0, .int .u32 0, .int .u32 0, .int .u32 0] [(0, 17, (.l 0))]⟩,
    ⟨none, .app 17 (.l 4) (.l 0)⟩,
    ⟨none, .mov (.l 0)⟩] [(8, 0)] []) (
  .seq (.reg false [⟨none, .mov (.r 1)⟩,
    ⟨none, .mov (.v (.c (.d (.int .i64 0))))⟩] [(18, 1), (19, 0)] []) (
  .block 4 (
  .seq (.fresh 7 none 34) (
  .loop (some [1, 3, 5, 6, 7, 8, 9, 12, 13, 15, 16, 18, 19]) fn9L0))))))) (
  .reg false [⟨none, .bin .add (.r 16) (.v (.c (.d (.int .i64 1))))⟩,
    ⟨none, .mov (.l 0)⟩] [(16, 0)] [])))

def fn9L2 : I := .seq (.reg false [⟨none, .bin .lss (.r 13) (.r 12)⟩] [(14, 0)] []) (
  .seq (.cond (.r 14) (
  .skip) (
  .exit 0)) (
  .seq (.block 1 (
  .seq (.reg false [⟨none, .mov (.r 13)⟩,
    ⟨none, .mov (.l 0)⟩] [(6, 0)] []) (
  .seq (.reg false [⟨none, .mov (.r 1)⟩,
    ⟨none, .mov (.r 1)⟩,
    ⟨none, .bin .mul (.l 1) (.l 0)⟩,
    ⟨none, .mks 34 136 [.int .u8 0, .int .u32 0, .int .u32 0, .int .u32 0, .int .u32 0, .int .u32 0, .int .u32 0, .int .u32 0, .int .u32 0, .int .u32 0, .int .u32 0, .int .u32 0, .int .u32 0, .int .u32 0, .int .u32 0, .int .u32 0, .int .u32 0, .int .u8 0, .int .u32 0, .int .u32 0, .int .u32 0, .int .u32 0, .int .u32 0, .int .u32 0, .int .u32 0, .int .u32 0, .int .u32 0, .int .u32 0, .int .u32 0, .int .u32 0, .int .u32 0, .int .u32 0, .int .u32 0, .int .u32 0] (.v (.c (.d (.int .i64 0)))) (.l 0)⟩,
    ⟨none, .mov (.l 0)⟩] [(7, 0)] []) (
  .seq (.reg false [⟨none, .mov (.v (.c (.d (.nils))))⟩] [(8, 0)] []) (
  .seq (.seq (.reg false [⟨none, .mov (.r 1)⟩,
    ⟨none, .mov (.v (.c (.d (.int .i64 0))))⟩] [(15, 1), (16, 0)] []) (
  .block 2 (
  .seq (.fresh 7 none 34) (
  .seq (.fresh 8 none 17) (
  .loop (some [1, 3, 5, 6, 7, 8, 12, 13, 15, 16]) fn9L1))))) (
  .reg false [⟨none, .mov (.r 5)⟩,
    ⟨none, .mov (.r 6)⟩,
    ⟨none, .mov (.r 7)⟩,
    ⟨none, .mov (.r 8)⟩,
    ⟨none, .hc (.v (.c (.d (.fn 29 [] [])))) [(.l 1), (.l 0)]⟩,
    ⟨none, .ixa 8 (.l 4) (.l 3)⟩,
    ⟨none, .st 8 (.l 0) (.l 1)⟩] [] [])))))) (
  .reg false [⟨none, .bin .add (.r 13) (.v (.c (.d (.int .i64 1))))⟩,
    ⟨none, .mov (.l 0)⟩] [(13, 0)] [])))

def fn9' : Fn := ⟨2, 21, [0, 1, 4, 5, 6, 7, 8, 9, 10, 11, 12, 20, 24, 25, 26, 32, 33, 34, 42, 43, 44], [.r 2, .cell 3 4 true, .r 4],
  .seq (.reg false [⟨none, .mov (.v (.c (.d (.nils))))⟩,
    ⟨none, .new [.nils, .bool false, .bool false, .bool false]⟩,
    ⟨none, .mov (.v (.c (.d (.int .i64 0))))⟩] [(2, 2), (3, 1), (4, 0)] []) (
  .seq (.seq (.reg false [⟨none, .mov (.r 0)⟩,
    ⟨none, .vc 27 [(.l 0), (.v (.c (.d (.int .i64 1)))), (.v (.c (.d (.int .i64 64))))]⟩,
    ⟨none, .un .not (.l 0)⟩,
    ⟨none, .mov (.l 0)⟩,
    ⟨some (0, false), .mov (.r 1)⟩,
    ⟨some (1, false), .vc 27 [(.l 0), (.v (.c (.d (.int .i64 1)))), (.v (.c (.d (.int .i64 8))))]⟩,
    ⟨some (2, false), .un .not (.l 0)⟩,
    ⟨none, .pick (.l 3) (.v (.c (.d (.bool true)))) (.l 0)⟩] [(11, 0)] []) (
  .cond (.r 11) (
  .seq (.reg false [⟨none, .bld [.nils, .bool false, .bool false, .bool false] []⟩,
    ⟨none, .mov (.v (.c (.d (.nils))))⟩,
    ⟨none, .st 4 (.r 3) (.l 1)⟩,
    ⟨none, .mov (.v (.c (.d (.int .i64 1))))⟩] [(2, 2), (4, 0)] []) (
  .ret)) (
  .skip))) (
  .seq (.reg false [⟨none, .mov (.r 0)⟩,
    ⟨none, .mks 8 88 [.bool false, .bool false, .nils, .bool false, .nils, .int .i64 0, .int .i64 0, .int .i64 0] (.l 0) (.l 0)⟩,
    ⟨none, .mov (.l 0)⟩] [(5, 0)] []) (
  .seq (.seq (.reg false [⟨none, .mov (.r 0)⟩,
    ⟨none, .mov (.v (.c (.d (.int .i64 0))))⟩] [(12, 1), (13, 0)] []) (
  .block 0 (
  .seq (.fresh 7 none 34) (
  .seq (.fresh 8 none 17) (
  .loop (some [1, 3, 5, 12, 13]) fn9L2))))) (
  .seq (.reg false [⟨none, .mov (.r 5)⟩,
    ⟨none, .vc 30 []⟩,
    ⟨none, .mov (.l 1)⟩,
    ⟨none, .st 4 (.r 3) (.l 1)⟩,
    ⟨none, .mov (.v (.c (.d (.int .i64 0))))⟩] [(2, 2), (4, 0)] []) (
  .ret)))))⟩
theorem fn9_is : fn9 = fn9' := rfl

def fn17L0 : I := .seq (.reg false [⟨none, .bin .lss (.r 20) (.r 19)⟩] [(21, 0)] []) (
  .seq (.cond (.r 21) (
  .skip) (
  .exit 4)) (
  .seq (.block 5 (
  .seq (.reg false [⟨none, .mov (.r 20)⟩,
    ⟨none, .mov (.l 0)⟩] [(11, 0)] []) (
  .reg false [⟨none, .mov (.r 10)⟩,
    ⟨none, .mov (.r 11)⟩,
    ⟨none, .mov (.r 7)⟩,
    ⟨none, .bin .add (.l 0) (.v (.c (.d (.int .i64 1))))⟩,
    ⟨none, .mov (.r 1)⟩,
    ⟨none, .mov (.r 11)⟩,
    ⟨none, .bin .add (.l 1) (.l 0)⟩,
    ⟨none, .bin .add (.l 0) (.v (.c (.d (.int .i64 1))))⟩,
    ⟨none, .vc 28 [(.l 4), (.l 0)]⟩,
    ⟨none, .mov (.r 7)⟩,
    ⟨none, .bin .add (.l 0) (.v (.c (.d (.int .i64 1))))⟩,
    ⟨none, .mov (.r 1)⟩,
    ⟨none, .mov (.r 2)⟩,
    ⟨none, .bin .add (.l 1) (.l 0)⟩,
    ⟨none, .mov (.r 11)⟩,
    ⟨none, .bin .add (.l 1) (.l 0)⟩,
    ⟨none, .bin .add (.l 0) (.v (.c (.d (.int .i64 1))))⟩,
    ⟨none, .vc 28 [(.l 6), (.l 0)]⟩,
    ⟨none, .bld [.int .u8 0, .int .u32 0, .int .u32 0, .int .u32 0, .int .u32 0, .int .u32 0, .int .u32 0, .int .u32 0, .int .u32 0, .int .u32 0, .int .u32 0, .int .u32 0, .int .u32 0, .int .u32 0, .int .u32 0, .int .u32 0, .int .u32 0, .int .u8 0, .int .u32 0, .int .u32 0, .int .u32 0, .int .u32 0, .int .u32 0, .int .u32 0, .int .u32 0, .int .u32 0, .int .u32 0, .int .u32 0, .int .u32 0, .int .u32 0, .int .u32 0, .int .u32 0, .int .u32 0, .int .u32 0] [(0, 17, (.l 9)), (17, 17, (.l 0))]⟩,
    ⟨none, .ixa 34 (.l 18) (.l 17)⟩,
    ⟨none, .st 34 (.l 0) (.l 1)⟩] [] []))) (
  .reg false [⟨none, .bin .add (.r 20) (.v (.c (.d (.int .i64 1))))⟩,
    ⟨none, .mov (.l 0)⟩] [(20, 0)] [])))

def fn17L1 : I := .seq (.reg false [⟨none, .bin .lss (.r 17) (.r 16)⟩] [(18, 0)] []) (
  .seq (.cond (.r 18) (
  .skip) (
  .exit 2)) (
  .seq (.block 3 (
  .seq (.reg false [⟨none, .mov (.r 17)⟩,
    ⟨none, .mov (.l 0)⟩] [(9, 0)] []) (
  .reg false [⟨none, .mov (.r 8)⟩,
    ⟨none, .mov (.r 7)⟩,
    ⟨none, .bin .add (.l 0) (.v (.c (.d (.int .i64 1))))⟩,
    ⟨none, .mov (.r 9)⟩,
    ⟨none, .bin .add (.l 0) (.v (.c (.d (.int .i64 1))))⟩,
    ⟨none, .vc 28 [(.l 2), (.l 0)]⟩,
    ⟨none, .bsl 1 17 [.int .u8 0, .int .u32 0, .int .u32 0, .int .u32 0, .int .u32 0, .int .u32 0, .int .u32 0, .int .u32 0, .int .u32 0, .int .u32 0, .int .u32 0, .int .u32 0, .int .u32 0, .int .u32 0, .int .u32 0, .int .u32 0, .int .u32 0] [(0, 17, (.l 0))]⟩,
    ⟨none, .app 17 (.l 6) (.l 0)⟩,
    ⟨none, .mov (.l 0)⟩] [(8, 0)] []))) (
  .reg false [⟨none, .bin .add (.r 17) (.v (.c (.d (.int .i64 1))))⟩,
    ⟨none, .mov (.l 0)⟩] [(17, 0)] [])))

def fn17L2 : I := .seq (.reg false [⟨none, .bin .lss (.r 14) (.r 13)⟩] [(15, 0)] []) (
  .seq (.cond (.r 15) (
  .skip) (
  .exit 0)) (
  .seq (.block 1 (
  .seq (.reg false [⟨none, .mov (.r 14)⟩,
    ⟨none, .mov (.l 0)⟩] [(7, 0)] []) (
  .seq (.reg false [⟨none, .mov (.v (.c (.d (.nils))))⟩] [(8, 0)] []) (
  .seq (.seq (.reg false [⟨none, .mov (.r 1)⟩,
    ⟨none, .mov (.v (.c (.d (.int .i64 0))))⟩] [(16, 1), (17, 0)] []) (
  .block 2 (
  .seq (.fresh 8 none 17) (
  .loop (some [1, 2, 4, 6, 7, 8, 13, 14, 16, 17]) fn17L1)))) (
  .seq (.reg false [⟨none, .mov (.r 2)⟩,
    ⟨none, .mks 34 136 [.int .u8 0, .int .u32 0, .int .u32 0, .int .u32 0, .int .u32 0, .int .u32 0, .int .u32 0, .int .u32 0, .int .u32 0, .int .u32 0, .int .u32 0, .int .u32 0, .int .u32 0, .int .u32 0, .int .u32 0, .int .u32 0, .int .u32 0, .int .u8 0, .int .u32 0, .int .u32 0, .int .u32 0, .int .u32 0, .int .u32 0, .int .u32 0, .int .u32 0, .int .u32 0, .int .u32 0, .int .u32 0, .int .u32 0, .int .u32 0, .int .u32 0, .int .u32 0, .int .u32 0, .int .u32 0] (.l 0) (.l 0)⟩,
    ⟨none, .mov (.l 0)⟩] [(10, 0)] []) (
  .seq (.seq (.reg false [⟨none, .mov (.r 2)⟩,
    ⟨none, .mov (.v (.c (.d (.int .i64 0))))⟩] [(19, 1), (20, 0)] []) (
  .block 4 (
  .loop (some [1, 2, 4, 6, 7, 8, 10, 13, 14, 19, 20]) fn17L0))) (
  .reg false [⟨none, .mov (.r 6)⟩,
    ⟨none, .mov (.r 7)⟩,
    ⟨none, .mov (.r 10)⟩,
    ⟨none, .mov (.r 8)⟩,
    ⟨none, .vc 38 []⟩,
    ⟨none, .bsl 1 17 [.int .u8 0, .int .u32 0, .int .u32 0, .int .u32 0, .int .u32 0, .int .u32 0, .int .u32 0, .int .u32 0, .int .u32 0, .int .u32 0, .int .u32 0, .int .u32 0, .int .u32 0, .int .u32 0, .int .u32 0, .int .u32 0, .int .u32 0] [(0, 17, (.l 0))]⟩,
    ⟨none, .app 17 (.l 2) (.l 0)⟩,
    ⟨none, .hc (.v (.c (.d (.fn 29 [] [])))) [(.l 4), (.l 0)]⟩,
    ⟨none, .ixa 8 (.l 7) (.l 6)⟩,
    ⟨none, .st 8 (.l 0) (.l 1)⟩] [] []))))))) (
  .reg false [⟨none, .bin .add (.r 14) (.v (.c (.d (.int .i64 1))))⟩,
    ⟨none, .mov (.l 0)⟩] [(14, 0)] [])))

def fn17' : Fn := ⟨3, 22, [0, 1, 2, 6, 7, 8, 9, 10, 11, 12, 13, 14, 19, 23, 24, 25, 27, 28, 29, 42, 43, 44], [.r 3, .cell 4 4 true, .r 5],
  .seq (.reg false [⟨none, .mov (.v (.c (.d (.nils))))⟩,
    ⟨none, .new [.nils, .bool false, .bool false, .bool false]⟩,
    ⟨none, .mov (.v (.c (.d (.int .i64 0))))⟩] [(3, 2), (4, 1), (5, 0)] []) (
  .seq (.seq (.reg false [⟨none, .mov (.r 0)⟩,
    ⟨none, .mov (.r 1)⟩,
    ⟨none, .mov (.r 2)⟩,
    ⟨none, .vc 37 [(.l 2), (.l 1), (.l 0)]⟩,
    ⟨none, .un .not (.l 0)⟩] [(12, 0)] []) (
  .cond (.r 12) (
  .seq (.reg false [⟨none, .bld [.nils, .bool false, .bool false, .bool false] []⟩,
    ⟨none, .mov (.v (.c (.d (.nils))))⟩,
    ⟨none, .st 4 (.r 4) (.l 1)⟩,
    ⟨none, .mov (.v (.c (.d (.int .i64 1))))⟩] [(3, 2), (5, 0)] []) (
  .ret)) (
  .skip))) (
  .seq (.reg false [⟨none, .mov (.r 0)⟩,
    ⟨none, .mks 8 88 [.bool false, .bool false, .nils, .bool false, .nils, .int .i64 0, .int .i64 0, .int .i64 0] (.l 0) (.l 0)⟩,
    ⟨none, .mov (.l 0)⟩] [(6, 0)] []) (
  .seq (.seq (.reg false [⟨none, .mov (.r 0)⟩,
    ⟨none, .mov (.v (.c (.d (.int .i64 0))))⟩] [(13, 1), (14, 0)] []) (
  .block 0 (
  .seq (.fresh 8 none 17) (
  .loop (some [1, 2, 4, 6, 13, 14]) fn17L2)))) (
  .seq (.reg false [⟨none, .mov (.r 6)⟩,
    ⟨none, .vc 30 []⟩,
    ⟨none, .mov (.l 1)⟩,
    ⟨none, .st 4 (.r 4) (.l 1)⟩,
    ⟨none, .mov (.v (.c (.d (.int .i64 0))))⟩] [(3, 2), (5, 0)] []) (
  .ret)))))⟩
theorem fn17_is : fn17 = fn17' := rfl

def fn29L0 : I := .seq (.reg false [⟨none, .bin .lss (.r 8) (.r 7)⟩] [(9, 0)] []) (
  .seq (.cond (.r 9) (
  .skip) (
  .exit 0)) (
  .seq (.block 1 (
  .seq (.reg false [⟨none, .mov (.r 8)⟩,
    ⟨none, .ixa 17 (.r 6) (.r 8)⟩,
    ⟨none, .ld true 17 (.l 0)⟩,
    ⟨none, .pre⟩,
    ⟨none, .mov (.l 3)⟩,
    ⟨none, .ini 17 (.l 2)⟩] [(4, 1), (5, 0)] []) (
  .reg false [⟨none, .fa 2 (.r 3)⟩,
    ⟨none, .ld false 1 (.l 0)⟩,
    ⟨none, .mov (.r 4)⟩,
    ⟨none, .ld true 17 (.r 5)⟩,
    ⟨none, .ixa 18 (.l 2) (.l 1)⟩,
    ⟨none, .fa 0 (.l 0)⟩,
    ⟨none, .st 17 (.l 0) (.l 2)⟩] [] []))) (
  .reg false [⟨none, .bin .add (.r 8) (.v (.c (.d (.int .i64 1))))⟩,
    ⟨none, .mov (.l 0)⟩] [(8, 0)] [])))

def fn29' : Fn := ⟨2, 10, [0, 1, 4, 5, 6, 7, 17, 18, 19, 20], [.cell 2 8 true],
  .seq (.reg false [⟨none, .new [.bool false, .bool false, .nils, .bool false, .nils, .int .i64 0, .int .i64 0, .int .i64 0]⟩] [(2, 0)] []) (
  .seq (.reg false [⟨none, .mov (.r 0)⟩,
    ⟨none, .len (.l 0)⟩,
    ⟨none, .bin .gtr (.l 0) (.v (.c (.d (.int .i64 0))))⟩,
    ⟨none, .mov (.r 0)⟩,
    ⟨none, .bld [.bool false, .bool false, .nils, .bool false, .nils, .int .i64 0, .int .i64 0, .int .i64 0] [(1, 1, (.v (.c (.d (.bool true))))), (3, 1, (.l 1)), (4, 1, (.l 0)), (5, 1, (.v (.c (.d (.int .i64 (-1)))))), (6, 1, (.v (.c (.d (.int .i64 (-1)))))), (7, 1, (.v (.c (.d (.int .i64 (-1))))))]⟩,
    ⟨none, .pre⟩,
    ⟨none, .ini 8 (.l 1)⟩] [(3, 0)] []) (
  .seq (.reg false [⟨none, .mov (.r 1)⟩,
    ⟨none, .len (.l 0)⟩,
    ⟨none, .mks 18 96 [.int .u8 0, .int .u32 0, .int .u32 0, .int .u32 0, .int .u32 0, .int .u32 0, .int .u32 0, .int .u32 0, .int .u32 0, .int .u32 0, .int .u32 0, .int .u32 0, .int .u32 0, .int .u32 0, .int .u32 0, .int .u32 0, .int .u32 0, .nils] (.l 0) (.l 0)⟩,
    ⟨none, .fa 2 (.r 3)⟩,
    ⟨none, .st 1 (.l 0) (.l 1)⟩] [] []) (
  .seq (.seq (.reg false [⟨none, .mov (.r 1)⟩,
    ⟨none, .len (.l 0)⟩,
    ⟨none, .mov (.v (.c (.d (.int .i64 0))))⟩] [(6, 2), (7, 1), (8, 0)] []) (
  .block 0 (
  .loop (some [2, 3, 6, 7, 8]) fn29L0))) (
  .seq (.reg false [⟨none, .ld true 8 (.r 3)⟩,
    ⟨none, .st 8 (.r 2) (.l 0)⟩] [] []) (
  .ret)))))⟩
theorem fn29_is : fn29 = fn29' := rfl

def fn15L0 : I := .seq (.seq (.reg false [⟨none, .mov (.r 7)⟩,
    ⟨none, .mov (.r 1)⟩,
    ⟨none, .bin .leq (.l 1) (.l 0)⟩] [(10, 0)] []) (
  .cond (.r 10) (
  .skip) (
  .exit 4))) (
  .seq (.block 5 (
  .reg true [⟨none, .ld true 8 (.r 5)⟩,
    ⟨none, .mov (.r 6)⟩,
    ⟨none, .vc 26 [(.v (.c (.d (.int .i64 0)))), (.l 0)]⟩,
    ⟨none, .mov (.r 7)⟩,
    ⟨none, .vc 26 [(.v (.c (.d (.int .i64 0)))), (.l 0)]⟩,
    ⟨none, .hc (.v (.c (.d (.fn 35 [] [])))) [(.l 4), (.l 2), (.l 0)]⟩,
    ⟨none, .st 8 (.r 5) (.l 0)⟩] [] [])) (
  .reg false [⟨none, .mov (.r 7)⟩,
    ⟨none, .bin .add (.l 0) (.v (.c (.d (.int .i64 1))))⟩,
    ⟨none, .mov (.l 0)⟩] [(7, 0)] []))

def fn15L1 : I := .seq (.seq (.reg false [⟨none, .mov (.r 6)⟩,
    ⟨none, .mov (.r 1)⟩,
    ⟨none, .bin .leq (.l 1) (.l 0)⟩] [(9, 0)] []) (
  .cond (.r 9) (
  .skip) (
  .exit 2))) (
  .seq (.block 3 (
  .seq (.reg true [⟨none, .ld true 8 (.r 5)⟩,
    ⟨none, .mov (.r 6)⟩,
    ⟨none, .vc 26 [(.v (.c (.d (.int .i64 0)))), (.l 0)]⟩,
    ⟨none, .hc (.v (.c (.d (.fn 34 [] [])))) [(.l 2), (.l 0)]⟩,
    ⟨none, .st 8 (.r 5) (.l 0)⟩] [] []) (
  .seq (.reg false [⟨none, .mov (.v (.c (.d (.int .i64 1))))⟩] [(7, 0)] []) (
  .block 4 (
  .loop (some [0, 1, 3, 4, 5, 6, 7]) fn15L0))))) (
  .reg false [⟨none, .mov (.r 6)⟩,
    ⟨none, .bin .add (.l 0) (.v (.c (.d (.int .i64 1))))⟩,
    ⟨none, .mov (.l 0)⟩] [(6, 0)] []))

def fn15L2 : I := .seq (.seq (.reg false [⟨none, .mov (.r 4)⟩,
    ⟨none, .mov (.r 0)⟩,
    ⟨none, .bin .leq (.l 1) (.l 0)⟩] [(8, 0)] []) (
  .cond (.r 8) (
  .skip) (
  .exit 0))) (
  .seq (.block 1 (
  .seq (.reg false [⟨none, .vc 33 []⟩,
    ⟨none, .pre⟩,
    ⟨none, .ini 8 (.l 1)⟩] [(5, 0)] []) (
  .seq (.seq (.reg false [⟨none, .mov (.v (.c (.d (.int .i64 1))))⟩] [(6, 0)] []) (
  .block 2 (
  .loop (some [0, 1, 3, 4, 5, 6]) fn15L1))) (
  .reg false [⟨none, .mov (.r 3)⟩,
    ⟨none, .ld true 8 (.r 5)⟩,
    ⟨none, .bsl 1 8 [.bool false, .bool false, .nils, .bool false, .nils, .int .i64 0, .int .i64 0, .int .i64 0] [(0, 8, (.l 0))]⟩,
    ⟨none, .app 8 (.l 2) (.l 0)⟩,
    ⟨none, .mov (.l 0)⟩] [(3, 0)] [])))) (
  .reg false [⟨none, .mov (.r 4)⟩,
    ⟨none, .bin .add (.l 0) (.v (.c (.d (.int .i64 1))))⟩,
    ⟨none, .mov (.l 0)⟩] [(4, 0)] []))

def fn15' : Fn := ⟨2, 11, [0, 1, 4, 5, 6, 7, 8, 9, 12, 18, 27], [.r 2],
  .seq (.reg false [⟨none, .mov (.v (.c (.d (.nils))))⟩] [(2, 0)] []) (
  .seq (.reg false [⟨none, .mov (.v (.c (.d (.nils))))⟩] [(3, 0)] []) (
  .seq (.seq (.reg false [⟨none, .mov (.v (.c (.d (.int .i64 1))))⟩] [(4, 0)] []) (
  .block 0 (
  .seq (.fresh 3 none 8) (
  .loop (some [0, 1, 3, 4]) fn15L2)))) (
  .seq (.reg false [⟨none, .mov (.r 3)⟩,
    ⟨none, .mov (.l 0)⟩] [(2, 0)] []) (
  .ret))))⟩
theorem fn15_is : fn15 = fn15' := rfl

def fn20L0 : I := .seq (.seq (.reg false [⟨none, .mov (.r 8)⟩,
    ⟨none, .mov (.r 2)⟩,
    ⟨none, .bin .leq (.l 1) (.l 0)⟩] [(11, 0)] []) (
  .cond (.r 11) (
  .skip) (
  .exit 4))) (
  .seq (.block 5 (
  .reg true [⟨none, .ld true 8 (.r 6)⟩,
    ⟨none, .mov (.r 5)⟩,
    ⟨none, .mov (.r 1)⟩,
    ⟨none, .mov (.r 8)⟩,
    ⟨none, .bin .add (.l 1) (.l 0)⟩,
    ⟨none, .vc 26 [(.l 3), (.l 0)]⟩,
    ⟨none, .mov (.r 5)⟩,
    ⟨none, .mov (.r 1)⟩,
    ⟨none, .mov (.r 2)⟩,
    ⟨none, .bin .add (.l 1) (.l 0)⟩,
    ⟨none, .mov (.r 8)⟩,
    ⟨none, .bin .add (.l 1) (.l 0)⟩,
    ⟨none, .vc 26 [(.l 5), (.l 0)]⟩,
    ⟨none, .hc (.v (.c (.d (.fn 35 [] [])))) [(.l 12), (.l 7), (.l 0)]⟩,
    ⟨none, .st 8 (.r 6) (.l 0)⟩] [] [])) (
  .reg false [⟨none, .mov (.r 8)⟩,
    ⟨none, .bin .add (.l 0) (.v (.c (.d (.int .i64 1))))⟩,
    ⟨none, .mov (.l 0)⟩] [(8, 0)] []))

def fn20L1 : I := .seq (.seq (.reg false [⟨none, .mov (.r 7)⟩,
    ⟨none, .mov (.r 1)⟩,
    ⟨none, .bin .leq (.l 1) (.l 0)⟩] [(10, 0)] []) (
  .cond (.r 10) (
  .skip) (
  .exit 2))) (
  .seq (.block 3 (
  .reg true [⟨none, .ld true 8 (.r 6)⟩,
    ⟨none, .mov (.r 5)⟩,
    ⟨none, .mov (.r 7)⟩,
    ⟨none, .vc 26 [(.l 1), (.l 0)]⟩,
    ⟨none, .hc (.v (.c (.d (.fn 34 [] [])))) [(.l 3), (.l 0)]⟩,
    ⟨none, .st 8 (.r 6) (.l 0)⟩] [] [])) (
  .reg false [⟨none, .mov (.r 7)⟩,
    ⟨none, .bin .add (.l 0) (.v (.c (.d (.int .i64 1))))⟩,
    ⟨none, .mov (.l 0)⟩] [(7, 0)] []))

def fn20L2 : I := .seq (.seq (.reg false [⟨none, .mov (.r 5)⟩,
    ⟨none, .mov (.r 0)⟩,
    ⟨none, .bin .leq (.l 1) (.l 0)⟩] [(9, 0)] []) (
  .cond (.r 9) (
  .skip) (
  .exit 0))) (
  .seq (.block 1 (
  .seq (.reg false [⟨none, .vc 33 []⟩,
    ⟨none, .pre⟩,
    ⟨none, .ini 8 (.l 1)⟩] [(6, 0)] []) (
  .seq (.seq (.reg false [⟨none, .mov (.v (.c (.d (.int .i64 1))))⟩] [(7, 0)] []) (
  .block 2 (
  .loop (some [0, 1, 2, 4, 5, 6, 7]) fn20L1))) (
  .seq (.reg true [⟨none, .ld true 8 (.r 6)⟩,
    ⟨none, .vc 40 []⟩,
    ⟨none, .hc (.v (.c (.d (.fn 34 [] [])))) [(.l 1), (.l 0)]⟩,
    ⟨none, .st 8 (.r 6) (.l 0)⟩] [] []) (
  .seq (.seq (.reg false [⟨none, .mov (.v (.c (.d (.int .i64 1))))⟩] [(8, 0)] []) (
  .block 4 (
  .loop (some [0, 1, 2, 4, 5, 6, 8]) fn20L0))) (
  .reg false [⟨none, .mov (.r 4)⟩,
    ⟨none, .ld true 8 (.r 6)⟩,
    ⟨none, .bsl 1 8 [.bool false, .bool false, .nils, .bool false, .nils, .int .i64 0, .int .i64 0, .int .i64 0] [(0, 8, (.l 0))]⟩,
    ⟨none, .app 8 (.l 2) (.l 0)⟩,
    ⟨none, .mov (.l 0)⟩] [(4, 0)] [])))))) (
  .reg false [⟨none, .mov (.r 5)⟩,
    ⟨none, .bin .add (.l 0) (.v (.c (.d (.int .i64 1))))⟩,
    ⟨none, .mov (.l 0)⟩] [(5, 0)] []))

def fn20' : Fn := ⟨3, 12, [0, 1, 2, 6, 7, 8, 9, 10, 11, 14, 20, 33], [.r 3],
  .seq (.reg false [⟨none, .mov (.v (.c (.d (.nils))))⟩] [(3, 0)] []) (
  .seq (.reg false [⟨none, .mov (.v (.c (.d (.nils))))⟩] [(4, 0)] []) (
  .seq (.seq (.reg false [⟨none, .mov (.v (.c (.d (.int .i64 1))))⟩] [(5, 0)] []) (
  .block 0 (
  .seq (.fresh 4 none 8) (
  .loop (some [0, 1, 2, 4, 5]) fn20L2)))) (
  .seq (.reg false [⟨none, .mov (.r 4)⟩,
    ⟨none, .mov (.l 0)⟩] [(3, 0)] []) (
  .ret))))⟩
theorem fn20_is : fn20 = fn20' := rfl

def fn14L0 : I := .seq (.seq (.reg false [⟨none, .mov (.r 7)⟩,
    ⟨none, .fa 4 (.r 4)⟩,
    ⟨none, .ld false 1 (.l 0)⟩,
    ⟨none, .len (.l 0)⟩,
    ⟨none, .bin .lss (.l 3) (.l 0)⟩] [(13, 0)] []) (
  .cond (.r 13) (
  .skip) (
  .exit 4))) (
  .seq (.block 5 (
  .seq (.reg true [⟨none, .fa 4 (.r 4)⟩,
    ⟨none, .ld false 1 (.l 0)⟩,
    ⟨none, .mov (.r 7)⟩,
    ⟨none, .ixa 34 (.l 1) (.l 0)⟩,
    ⟨none, .ld true 34 (.l 0)⟩,
    ⟨none, .fa 4 (.r 5)⟩,
    ⟨none, .ld false 1 (.l 0)⟩,
    ⟨none, .mov (.r 7)⟩,
    ⟨none, .ixa 34 (.l 1) (.l 0)⟩,
    ⟨none, .ld true 34 (.l 0)⟩,
    ⟨none, .eqa true 34 (.l 5) (.l 0)⟩] [(14, 0)] []) (
  .cond (.r 14) (
  .seq (.reg false [⟨none, .mov (.v (.c (.d (.int .i64 0))))⟩] [(2, 0)] []) (
  .ret)) (
  .skip)))) (
  .reg false [⟨none, .mov (.r 7)⟩,
    ⟨none, .bin .add (.l 0) (.v (.c (.d (.int .i64 1))))⟩,
    ⟨none, .mov (.l 0)⟩] [(7, 0)] []))

def fn14L1 : I := .seq (.seq (.reg false [⟨none, .mov (.r 6)⟩,
    ⟨none, .fa 2 (.r 4)⟩,
    ⟨none, .ld false 1 (.l 0)⟩,
    ⟨none, .len (.l 0)⟩,
    ⟨none, .bin .lss (.l 3) (.l 0)⟩] [(11, 0)] []) (
  .cond (.r 11) (
  .skip) (
  .exit 2))) (
  .seq (.block 3 (
  .seq (.reg true [⟨none, .fa 2 (.r 4)⟩,
    ⟨none, .ld false 1 (.l 0)⟩,
    ⟨none, .mov (.r 6)⟩,
    ⟨none, .ixa 18 (.l 1) (.l 0)⟩,
    ⟨none, .fa 0 (.l 0)⟩,
    ⟨none, .ld true 17 (.l 0)⟩,
    ⟨none, .fa 2 (.r 5)⟩,
    ⟨none, .ld false 1 (.l 0)⟩,
    ⟨none, .mov (.r 6)⟩,
    ⟨none, .ixa 18 (.l 1) (.l 0)⟩,
    ⟨none, .fa 0 (.l 0)⟩,
    ⟨none, .ld true 17 (.l 0)⟩,
    ⟨none, .eqa true 17 (.l 6) (.l 0)⟩,
    ⟨none, .mov (.l 0)⟩,
    ⟨some (0, false), .fa 2 (.r 4)⟩,
    ⟨some (1, false), .ld false 1 (.l 0)⟩,
    ⟨some (2, false), .mov (.r 6)⟩,
    ⟨some (3, false), .ixa 18 (.l 1) (.l 0)⟩,
    ⟨some (4, false), .fa 17 (.l 0)⟩,
    ⟨some (5, false), .ld false 1 (.l 0)⟩,
    ⟨some (6, false), .len (.l 0)⟩,
    ⟨some (7, false), .fa 2 (.r 5)⟩,
    ⟨some (8, false), .ld false 1 (.l 0)⟩,
    ⟨some (9, false), .mov (.r 6)⟩,
    ⟨some (10, false), .ixa 18 (.l 1) (.l 0)⟩,
    ⟨some (11, false), .fa 17 (.l 0)⟩,
    ⟨some (12, false), .ld false 1 (.l 0)⟩,
    ⟨some (13, false), .len (.l 0)⟩,
    ⟨some (14, false), .bin .add (.l 7) (.l 0)⟩,
    ⟨some (15, false), .bin .gtr (.l 0) (.v (.c (.d (.int .i64 0))))⟩,
    ⟨none, .pick (.l 16) (.v (.c (.d (.bool true)))) (.l 0)⟩] [(12, 0)] []) (
  .cond (.r 12) (
  .seq (.reg false [⟨none, .mov (.v (.c (.d (.int .i64 0))))⟩] [(2, 0)] []) (
  .ret)) (
  .skip)))) (
  .reg false [⟨none, .mov (.r 6)⟩,
    ⟨none, .bin .add (.l 0) (.v (.c (.d (.int .i64 1))))⟩,
    ⟨none, .mov (.l 0)⟩] [(6, 0)] []))

def fn14L2 : I := .seq (.seq (.reg false [⟨none, .mov (.r 3)⟩,
    ⟨none, .mov (.r 0)⟩,
    ⟨none, .len (.l 0)⟩,
    ⟨none, .bin .lss (.l 2) (.l 0)⟩] [(9, 0)] []) (
  .cond (.r 9) (
  .skip) (
  .exit 0))) (
  .seq (.block 1 (
  .seq (.reg true [⟨none, .mov (.r 0)⟩,
    ⟨none, .mov (.r 3)⟩,
    ⟨none, .ixa 8 (.l 1) (.l 0)⟩,
    ⟨none, .ld true 8 (.l 0)⟩,
    ⟨none, .mov (.r 1)⟩,
    ⟨none, .mov (.r 3)⟩,
    ⟨none, .ixa 8 (.l 1) (.l 0)⟩,
    ⟨none, .ld true 8 (.l 0)⟩,
    ⟨none, .pre⟩,
    ⟨none, .pre⟩,
    ⟨none, .ini 8 (.l 6)⟩,
    ⟨none, .ini 8 (.l 3)⟩] [(4, 1), (5, 0)] []) (
  .seq (.seq (.reg false [⟨none, .fa 0 (.r 4)⟩,
    ⟨none, .ld false 1 (.l 0)⟩,
    ⟨none, .fa 0 (.r 5)⟩,
    ⟨none, .ld false 1 (.l 0)⟩,
    ⟨none, .beq true (.l 2) (.l 0)⟩,
    ⟨none, .mov (.l 0)⟩,
    ⟨some (0, false), .fa 1 (.r 4)⟩,
    ⟨some (1, false), .ld false 1 (.l 0)⟩,
    ⟨some (2, false), .fa 1 (.r 5)⟩,
    ⟨some (3, false), .ld false 1 (.l 0)⟩,
    ⟨some (4, false), .beq true (.l 2) (.l 0)⟩,
    ⟨none, .pick (.l 5) (.v (.c (.d (.bool true)))) (.l 0)⟩,
    ⟨none, .mov (.l 0)⟩,
    ⟨some (0, false), .fa 3 (.r 4)⟩,
    ⟨some (1, false), .ld false 1 (.l 0)⟩,
    ⟨some (2, false), .fa 3 (.r 5)⟩,
    ⟨some (3, false), .ld false 1 (.l 0)⟩,
    ⟨some (4, false), .beq true (.l 2) (.l 0)⟩,
    ⟨none, .pick (.l 5) (.v (.c (.d (.bool true)))) (.l 0)⟩,
    ⟨none, .mov (.l 0)⟩,
    ⟨some (0, false), .fa 5 (.r 4)⟩,
    ⟨some (1, false), .ld false 1 (.l 0)⟩,
    ⟨some (2, false), .fa 5 (.r 5)⟩,
    ⟨some (3, false), .ld false 1 (.l 0)⟩,
    ⟨some (4, false), .bin .neq (.l 2) (.l 0)⟩,
    ⟨none, .pick (.l 5) (.v (.c (.d (.bool true)))) (.l 0)⟩,
    ⟨none, .mov (.l 0)⟩,
    ⟨some (0, false), .fa 6 (.r 4)⟩,
    ⟨some (1, false), .ld false 1 (.l 0)⟩,
    ⟨some (2, false), .fa 6 (.r 5)⟩,
    ⟨some (3, false), .ld false 1 (.l 0)⟩,
    ⟨some (4, false), .bin .neq (.l 2) (.l 0)⟩,
    ⟨none, .pick (.l 5) (.v (.c (.d (.bool true)))) (.l 0)⟩,
    ⟨none, .mov (.l 0)⟩,
    ⟨some (0, false), .fa 7 (.r 4)⟩,
    ⟨some (1, false), .ld false 1 (.l 0)⟩,
    ⟨some (2, false), .fa 7 (.r 5)⟩,
    ⟨some (3, false), .ld false 1 (.l 0)⟩,
    ⟨some (4, false), .bin .neq (.l 2) (.l 0)⟩,
    ⟨none, .pick (.l 5) (.v (.c (.d (.bool true)))) (.l 0)⟩,
    ⟨none, .mov (.l 0)⟩,
    ⟨some (0, false), .fa 2 (.r 4)⟩,
    ⟨some (1, false), .ld false 1 (.l 0)⟩,
    ⟨some (2, false), .len (.l 0)⟩,
    ⟨some (3, false), .fa 2 (.r 5)⟩,
    ⟨some (4, false), .ld false 1 (.l 0)⟩,
    ⟨some (5, false), .len (.l 0)⟩,
    ⟨some (6, false), .bin .neq (.l 3) (.l 0)⟩,
    ⟨none, .pick (.l 7) (.v (.c (.d (.bool true)))) (.l 0)⟩,
    ⟨none, .mov (.l 0)⟩,
    ⟨some (0, false), .fa 4 (.r 4)⟩,
    ⟨some (1, false), .ld false 1 (.l 0)⟩,
    ⟨some (2, false), .len (.l 0)⟩,
    ⟨some (3, false), .fa 4 (.r 5)⟩,
    ⟨some (4, false), .ld false 1 (.l 0)⟩,
    ⟨some (5, false), .len (.l 0)⟩,
    ⟨some (6, false), .bin .neq (.l 3) (.l 0)⟩,
    ⟨none, .pick (.l 7) (.v (.c (.d (.bool true)))) (.l 0)⟩] [(10, 0)] []) (
  .cond (.r 10) (
  .seq (.reg false [⟨none, .mov (.v (.c (.d (.int .i64 0))))⟩] [(2, 0)] []) (
  .ret)) (
  .skip))) (
  .seq (.seq (.reg false [⟨none, .mov (.v (.c (.d (.int .i64 0))))⟩] [(6, 0)] []) (
  .block 2 (
  .loop (some [0, 1, 3, 4, 5, 6]) fn14L1))) (
  .seq (.reg false [⟨none, .mov (.v (.c (.d (.int .i64 0))))⟩] [(7, 0)] []) (
  .block 4 (
  .loop (some [0, 1, 3, 4, 5, 7]) fn14L0))))))) (
  .reg false [⟨none, .mov (.r 3)⟩,
    ⟨none, .bin .add (.l 0) (.v (.c (.d (.int .i64 1))))⟩,
    ⟨none, .mov (.l 0)⟩] [(3, 0)] []))

def fn14' : Fn := ⟨2, 15, [0, 1, 4, 5, 6, 7, 8, 9, 14, 18, 86, 91, 124, 129, 142], [.r 2],
  .seq (.reg false [⟨none, .mov (.v (.c (.d (.int .i64 0))))⟩] [(2, 0)] []) (
  .seq (.seq (.reg false [⟨none, .mov (.r 0)⟩,
    ⟨none, .len (.l 0)⟩,
    ⟨none, .mov (.r 1)⟩,
    ⟨none, .len (.l 0)⟩,
    ⟨none, .bin .neq (.l 2) (.l 0)⟩] [(8, 0)] []) (
  .cond (.r 8) (
  .seq (.reg false [⟨none, .mov (.v (.c (.d (.int .i64 0))))⟩] [(2, 0)] []) (
  .ret)) (
  .skip))) (
  .seq (.seq (.reg false [⟨none, .mov (.v (.c (.d (.int .i64 0))))⟩] [(3, 0)] []) (
  .block 0 (
  .loop (some [0, 1, 3]) fn14L2))) (
  .seq (.reg false [⟨none, .mov (.v (.c (.d (.int .i64 1))))⟩] [(2, 0)] []) (
  .ret))))⟩
theorem fn14_is : fn14 = fn14' := rfl

def fn18L0 : I := .seq (.reg false [⟨none, .bin .lss (.r 9) (.r 8)⟩] [(10, 0)] []) (
  .seq (.cond (.r 10) (
  .skip) (
  .exit 0)) (
  .seq (.block 1 (
  .seq (.reg false [⟨none, .mov (.r 9)⟩,
    ⟨none, .mov (.l 0)⟩] [(6, 0)] []) (
  .reg false [⟨none, .mov (.r 3)⟩,
    ⟨none, .mov (.r 0)⟩,
    ⟨none, .mov (.r 1)⟩,
    ⟨none, .mov (.r 2)⟩,
    ⟨none, .mov (.r 6)⟩,
    ⟨none, .vc 39 [(.l 3), (.l 2), (.l 1), (.l 0)]⟩,
    ⟨none, .bin .add (.l 5) (.l 0)⟩,
    ⟨none, .mov (.l 0)⟩] [(3, 0)] []))) (
  .reg false [⟨none, .bin .add (.r 9) (.v (.c (.d (.int .i64 1))))⟩,
    ⟨none, .mov (.l 0)⟩] [(9, 0)] [])))

def fn18' : Fn := ⟨3, 11, [0, 1, 2, 6, 7, 8, 9, 14, 16, 17, 18], [.r 3, .r 4, .r 5],
  .seq (.reg false [⟨none, .mov (.v (.c (.d (.int .i64 0))))⟩,
    ⟨none, .mov (.v (.c (.d (.int .i64 0))))⟩,
    ⟨none, .mov (.v (.c (.d (.int .i64 0))))⟩] [(3, 2), (4, 1), (5, 0)] []) (
  .seq (.seq (.reg false [⟨none, .mov (.r 0)⟩,
    ⟨none, .mov (.r 1)⟩,
    ⟨none, .mov (.r 2)⟩,
    ⟨none, .vc 37 [(.l 2), (.l 1), (.l 0)]⟩,
    ⟨none, .un .not (.l 0)⟩] [(7, 0)] []) (
  .cond (.r 7) (
  .seq (.reg false [⟨none, .mov (.v (.c (.d (.int .i64 0))))⟩,
    ⟨none, .mov (.v (.c (.d (.int .i64 0))))⟩,
    ⟨none, .mov (.v (.c (.d (.int .i64 1))))⟩] [(3, 2), (4, 1), (5, 0)] []) (
  .ret)) (
  .skip))) (
  .seq (.seq (.reg false [⟨none, .mov (.r 0)⟩,
    ⟨none, .bin .add (.l 0) (.v (.c (.d (.int .i64 1))))⟩,
    ⟨none, .mov (.v (.c (.d (.int .i64 0))))⟩] [(8, 1), (9, 0)] []) (
  .block 0 (
  .loop (some [0, 1, 2, 3, 8, 9]) fn18L0))) (
  .seq (.reg false [⟨none, .mov (.r 3)⟩,
    ⟨none, .mov (.r 3)⟩,
    ⟨none, .bin .sub (.l 0) (.v (.c (.d (.int .i64 1))))⟩,
    ⟨none, .mov (.l 2)⟩,
    ⟨none, .mov (.l 1)⟩,
    ⟨none, .mov (.v (.c (.d (.int .i64 0))))⟩] [(3, 2), (4, 1), (5, 0)] []) (
  .ret))))⟩
theorem fn18_is : fn18 = fn18' := rfl

end Mini
end Go.Proofs.YtcilepbdddgpoaaDoor
