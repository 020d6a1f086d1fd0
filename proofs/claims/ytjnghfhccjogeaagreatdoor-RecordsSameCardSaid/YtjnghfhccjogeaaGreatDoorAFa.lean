/-
  RecordsSame: the code of the functions, in the abstract machine's form.
-/
import Derived.Test.YtjnghfhccjogeaaGreatDoorAA
namespace Go.Proofs.YtjnghfhccjogeaaGreatDoor
namespace Mini
def fn10 : Fn := ⟨2, 6, [0, 1, 2, 3, 4, 10], [.r 4],
  .seq (.reg false [⟨none, .box (.r 0)⟩,
    ⟨none, .box (.r 1)⟩,
    ⟨none, .mov (.v (.c (.d (.bool false))))⟩] [(2, 2), (3, 1), (4, 0)] []) (
  .seq (.seq (.reg true [⟨none, .ld true 8 (.r 2)⟩,
    ⟨none, .vc 11 [(.l 0)]⟩,
    ⟨none, .ld true 8 (.r 3)⟩,
    ⟨none, .vc 11 [(.l 0)]⟩,
    ⟨none, .bin .add (.l 2) (.l 0)⟩,
    ⟨none, .bin .gtr (.l 0) (.v (.c (.d (.int .i64 0))))⟩] [(5, 0)] []) (
  .cond (.r 5) (
  .seq (.reg false [⟨none, .vc 12 []⟩,
    ⟨none, .mov (.l 0)⟩] [(4, 0)] []) (
  .ret)) (
  .skip))) (
  .seq (.reg true [⟨none, .ld true 8 (.r 2)⟩,
    ⟨none, .ld true 8 (.r 3)⟩,
    ⟨none, .vc 46 [(.l 1), (.l 0)]⟩,
    ⟨none, .ld true 8 (.r 2)⟩,
    ⟨none, .ld true 8 (.r 3)⟩,
    ⟨none, .vc 47 [(.l 1), (.l 0)]⟩,
    ⟨none, .bin .eql (.l 0) (.v (.c (.d (.int .i64 1))))⟩,
    ⟨none, .beq false (.l 4) (.l 0)⟩,
    ⟨none, .mov (.l 0)⟩,
    ⟨some (0, true), .ld true 8 (.r 3)⟩,
    ⟨some (1, true), .ld true 8 (.r 2)⟩,
    ⟨some (2, true), .vc 46 [(.l 1), (.l 0)]⟩,
    ⟨some (3, true), .ld true 8 (.r 2)⟩,
    ⟨some (4, true), .ld true 8 (.r 3)⟩,
    ⟨some (5, true), .vc 46 [(.l 1), (.l 0)]⟩,
    ⟨some (6, true), .beq false (.l 3) (.l 0)⟩,
    ⟨none, .pick (.l 7) (.l 0) (.v (.c (.d (.bool false))))⟩,
    ⟨none, .mov (.l 0)⟩,
    ⟨some (0, true), .ld true 8 (.r 2)⟩,
    ⟨some (1, true), .ld true 8 (.r 2)⟩,
    ⟨some (2, true), .vc 46 [(.l 1), (.l 0)]⟩,
    ⟨none, .pick (.l 3) (.l 0) (.v (.c (.d (.bool false))))⟩,
    ⟨none, .mov (.l 0)⟩,
    ⟨some (0, true), .vc 12 []⟩,
    ⟨none, .pick (.l 1) (.l 0) (.v (.c (.d (.bool false))))⟩,
    ⟨none, .mov (.l 0)⟩] [(4, 0)] []) (
  .ret)))⟩
def fn11L0 : I := .seq (.seq (.reg false [⟨none, .mov (.r 5)⟩,
    ⟨none, .mov (.r 4)⟩,
    ⟨none, .len (.l 0)⟩,
    ⟨none, .bin .lss (.l 2) (.l 0)⟩] [(9, 0)] []) (
  .cond (.r 9) (
  .skip) (
  .exit 2))) (
  .seq (.block 3 (
  .seq (.reg false [⟨none, .mov (.r 4)⟩,
    ⟨none, .mov (.r 5)⟩,
    ⟨none, .ixa 27 (.l 1) (.l 0)⟩,
    ⟨none, .fa 1 (.l 0)⟩,
    ⟨none, .ld false 1 (.l 0)⟩,
    ⟨none, .lns (.l 0)⟩,
    ⟨none, .bin .gtr (.l 0) (.v (.c (.d (.int .i64 1100))))⟩,
    ⟨none, .mov (.l 0)⟩,
    ⟨some (0, false), .mov (.r 4)⟩,
    ⟨some (1, false), .mov (.r 5)⟩,
    ⟨some (2, false), .ixa 27 (.l 1) (.l 0)⟩,
    ⟨some (3, false), .fa 26 (.l 0)⟩,
    ⟨some (4, false), .ld false 1 (.l 0)⟩,
    ⟨some (5, false), .len (.l 0)⟩,
    ⟨some (6, false), .bin .gtr (.l 0) (.v (.c (.d (.int .i64 1100))))⟩,
    ⟨none, .pick (.l 7) (.v (.c (.d (.bool true)))) (.l 0)⟩,
    ⟨none, .mov (.l 0)⟩,
    ⟨some (0, false), .mov (.r 4)⟩,
    ⟨some (1, false), .mov (.r 5)⟩,
    ⟨some (2, false), .ixa 27 (.l 1) (.l 0)⟩,
    ⟨some (3, false), .fa 3 (.l 0)⟩,
    ⟨some (4, false), .fa 1 (.l 0)⟩,
    ⟨some (5, false), .ld false 1 (.l 0)⟩,
    ⟨some (6, false), .lns (.l 0)⟩,
    ⟨some (7, false), .bin .gtr (.l 0) (.v (.c (.d (.int .i64 1100))))⟩,
    ⟨none, .pick (.l 8) (.v (.c (.d (.bool true)))) (.l 0)⟩,
    ⟨none, .mov (.l 0)⟩,
    ⟨some (0, false), .mov (.r 4)⟩,
    ⟨some (1, false), .mov (.r 5)⟩,
    ⟨some (2, false), .ixa 27 (.l 1) (.l 0)⟩,
    ⟨some (3, false), .fa 7 (.l 0)⟩,
    ⟨some (4, false), .fa 1 (.l 0)⟩,
    ⟨some (5, false), .ld false 1 (.l 0)⟩,
    ⟨some (6, false), .lns (.l 0)⟩,
    ⟨some (7, false), .bin .gtr (.l 0) (.v (.c (.d (.int .i64 1100))))⟩,
    ⟨none, .pick (.l 8) (.v (.c (.d (.bool true)))) (.l 0)⟩,
    ⟨none, .mov (.l 0)⟩,
    ⟨some (0, false), .mov (.r 4)⟩,
    ⟨some (1, false), .mov (.r 5)⟩,
    ⟨some (2, false), .ixa 27 (.l 1) (.l 0)⟩,
    ⟨some (3, false), .fa 5 (.l 0)⟩,
    ⟨some (4, false), .ld false 1 (.l 0)⟩,
    ⟨some (5, false), .len (.l 0)⟩,
    ⟨some (6, false), .bin .gtr (.l 0) (.v (.c (.d (.int .i64 20))))⟩,
    ⟨none, .pick (.l 7) (.v (.c (.d (.bool true)))) (.l 0)⟩] [(10, 0)] []) (
  .cond (.r 10) (
  .seq (.reg false [⟨none, .mov (.v (.c (.d (.int .i64 1))))⟩] [(2, 0)] []) (
  .ret)) (
  .skip)))) (
  .reg false [⟨none, .mov (.r 5)⟩,
    ⟨none, .bin .add (.l 0) (.v (.c (.d (.int .i64 1))))⟩,
    ⟨none, .mov (.l 0)⟩] [(5, 0)] []))
def fn11L1 : I := .seq (.seq (.reg false [⟨none, .mov (.r 3)⟩,
    ⟨none, .fa 2 (.r 1)⟩,
    ⟨none, .ld false 1 (.l 0)⟩,
    ⟨none, .len (.l 0)⟩,
    ⟨none, .bin .lss (.l 3) (.l 0)⟩] [(7, 0)] []) (
  .cond (.r 7) (
  .skip) (
  .exit 0))) (
  .seq (.block 1 (
  .seq (.reg false [⟨none, .fa 2 (.r 1)⟩,
    ⟨none, .ld false 1 (.l 0)⟩,
    ⟨none, .mov (.r 3)⟩,
    ⟨none, .ixa 18 (.l 1) (.l 0)⟩,
    ⟨none, .fa 17 (.l 0)⟩,
    ⟨none, .ld false 1 (.l 0)⟩,
    ⟨none, .mov (.l 0)⟩] [(4, 0)] []) (
  .seq (.seq (.reg false [⟨none, .mov (.r 4)⟩,
    ⟨none, .len (.l 0)⟩,
    ⟨none, .bin .gtr (.l 0) (.v (.c (.d (.int .i64 10))))⟩] [(8, 0)] []) (
  .cond (.r 8) (
  .seq (.reg false [⟨none, .mov (.v (.c (.d (.int .i64 1))))⟩] [(2, 0)] []) (
  .ret)) (
  .skip))) (
  .seq (.reg false [⟨none, .mov (.v (.c (.d (.int .i64 0))))⟩] [(5, 0)] []) (
  .block 2 (
  .loop (some [1, 3, 4, 5]) fn11L0)))))) (
  .reg false [⟨none, .mov (.r 3)⟩,
    ⟨none, .bin .add (.l 0) (.v (.c (.d (.int .i64 1))))⟩,
    ⟨none, .mov (.l 0)⟩] [(3, 0)] []))
def fn11 : Fn := ⟨1, 11, [0, 1, 2, 3, 4, 5, 15, 20, 31, 35, 82], [.r 2],
  .seq (.reg false [⟨none, .box (.r 0)⟩,
    ⟨none, .mov (.v (.c (.d (.int .i64 0))))⟩] [(1, 1), (2, 0)] []) (
  .seq (.seq (.reg false [⟨none, .fa 2 (.r 1)⟩,
    ⟨none, .ld false 1 (.l 0)⟩,
    ⟨none, .len (.l 0)⟩,
    ⟨none, .bin .gtr (.l 0) (.v (.c (.d (.int .i64 70))))⟩,
    ⟨none, .mov (.l 0)⟩,
    ⟨some (0, false), .fa 4 (.r 1)⟩,
    ⟨some (1, false), .ld false 1 (.l 0)⟩,
    ⟨some (2, false), .len (.l 0)⟩,
    ⟨some (3, false), .bin .gtr (.l 0) (.v (.c (.d (.int .i64 70))))⟩,
    ⟨none, .pick (.l 4) (.v (.c (.d (.bool true)))) (.l 0)⟩] [(6, 0)] []) (
  .cond (.r 6) (
  .seq (.reg false [⟨none, .mov (.v (.c (.d (.int .i64 1))))⟩] [(2, 0)] []) (
  .ret)) (
  .skip))) (
  .seq (.seq (.reg false [⟨none, .mov (.v (.c (.d (.int .i64 0))))⟩] [(3, 0)] []) (
  .block 0 (
  .loop (some [1, 3]) fn11L1))) (
  .seq (.reg false [⟨none, .mov (.v (.c (.d (.int .i64 0))))⟩] [(2, 0)] []) (
  .ret))))⟩
def fn12 : Fn := ⟨0, 20, [0, 1, 2, 3, 5, 6, 7, 8, 9, 10, 12, 13, 15, 16, 18, 19, 21, 22, 87, 94], [.r 0],
  .seq (.reg false [⟨none, .mov (.v (.c (.d (.bool false))))⟩] [(0, 0)] []) (
  .seq (.reg false [⟨none, .vc 48 []⟩,
    ⟨none, .mov (.l 0)⟩] [(1, 0)] []) (
  .seq (.reg false [⟨none, .mov (.r 1)⟩,
    ⟨none, .ixa 8 (.l 0) (.v (.c (.d (.int .i64 0))))⟩,
    ⟨none, .ld true 8 (.l 0)⟩,
    ⟨none, .hc (.v (.c (.d (.fn 16 [] [])))) [(.l 0)]⟩,
    ⟨none, .mov (.l 0)⟩,
    ⟨none, .ext (.l 0) 0⟩,
    ⟨none, .ext (.l 1) 1⟩,
    ⟨none, .mov (.l 1)⟩,
    ⟨none, .mov (.l 1)⟩] [(2, 1), (3, 0)] []) (
  .seq (.reg false [⟨none, .mov (.r 1)⟩,
    ⟨none, .ixa 8 (.l 0) (.v (.c (.d (.int .i64 1))))⟩,
    ⟨none, .ld true 8 (.l 0)⟩,
    ⟨none, .hc (.v (.c (.d (.fn 16 [] [])))) [(.l 0)]⟩,
    ⟨none, .mov (.l 0)⟩,
    ⟨none, .ext (.l 0) 0⟩,
    ⟨none, .ext (.l 1) 1⟩,
    ⟨none, .mov (.l 1)⟩,
    ⟨none, .mov (.l 1)⟩] [(4, 0)] []) (
  .seq (.reg false [⟨none, .mov (.r 1)⟩,
    ⟨none, .vc 18 [(.l 0)]⟩,
    ⟨none, .mov (.l 0)⟩,
    ⟨none, .ext (.l 0) 0⟩,
    ⟨none, .ext (.l 1) 1⟩,
    ⟨none, .mov (.l 1)⟩,
    ⟨none, .mov (.l 1)⟩] [(5, 1), (6, 0)] []) (
  .seq (.seq (.reg false [⟨none, .mov (.r 1)⟩,
    ⟨none, .vc 15 [(.l 0)]⟩,
    ⟨none, .bin .neq (.l 0) (.v (.c (.d (.int .i64 0))))⟩,
    ⟨none, .mov (.l 0)⟩,
    ⟨some (0, false), .mov (.r 1)⟩,
    ⟨some (1, false), .ixa 8 (.l 0) (.v (.c (.d (.int .i64 0))))⟩,
    ⟨some (2, false), .ld true 8 (.l 0)⟩,
    ⟨some (3, false), .hc (.v (.c (.d (.fn 19 [] [])))) [(.l 0)]⟩,
    ⟨some (4, false), .vc 41 []⟩,
    ⟨some (5, false), .bsl 1 17 [.int .u8 0, .int .u32 0, .int .u32 0, .int .u32 0, .int .u32 0, .int .u32 0, .int .u32 0, .int .u32 0, .int .u32 0, .int .u32 0, .int .u32 0, .int .u32 0, .int .u32 0, .int .u32 0, .int .u32 0, .int .u32 0, .int .u32 0] [(0, 17, (.l 0))]⟩,
    ⟨some (6, false), .hc (.v (.c (.d (.fn 28 [] [])))) [(.l 2), (.l 0)]⟩,
    ⟨some (7, false), .un .not (.l 0)⟩,
    ⟨none, .pick (.l 8) (.v (.c (.d (.bool true)))) (.l 0)⟩,
    ⟨none, .mov (.l 0)⟩,
    ⟨some (0, false), .mov (.r 3)⟩,
    ⟨some (1, false), .un .not (.l 0)⟩,
    ⟨none, .pick (.l 2) (.v (.c (.d (.bool true)))) (.l 0)⟩,
    ⟨none, .mov (.l 0)⟩,
    ⟨some (0, false), .mov (.r 2)⟩,
    ⟨some (1, false), .len (.l 0)⟩,
    ⟨some (2, false), .bin .neq (.l 0) (.v (.c (.d (.int .i64 0))))⟩,
    ⟨none, .pick (.l 3) (.v (.c (.d (.bool true)))) (.l 0)⟩,
    ⟨none, .mov (.l 0)⟩,
    ⟨some (0, false), .mov (.r 4)⟩,
    ⟨none, .pick (.l 1) (.v (.c (.d (.bool true)))) (.l 0)⟩,
    ⟨none, .mov (.l 0)⟩,
    ⟨some (0, false), .mov (.r 1)⟩,
    ⟨some (1, false), .ixa 8 (.l 0) (.v (.c (.d (.int .i64 0))))⟩,
    ⟨some (2, false), .ld true 8 (.l 0)⟩,
    ⟨some (3, false), .hc (.v (.c (.d (.fn 20 [] [])))) [(.l 0)]⟩,
    ⟨some (4, false), .vc 41 []⟩,
    ⟨some (5, false), .bsl 1 17 [.int .u8 0, .int .u32 0, .int .u32 0, .int .u32 0, .int .u32 0, .int .u32 0, .int .u32 0, .int .u32 0, .int .u32 0, .int .u32 0, .int .u32 0, .int .u32 0, .int .u32 0, .int .u32 0, .int .u32 0, .int .u32 0, .int .u32 0] [(0, 17, (.l 0))]⟩,
    ⟨some (6, false), .hc (.v (.c (.d (.fn 28 [] [])))) [(.l 2), (.l 0)]⟩,
    ⟨some (7, false), .un .not (.l 0)⟩,
    ⟨none, .pick (.l 8) (.v (.c (.d (.bool true)))) (.l 0)⟩,
    ⟨none, .mov (.l 0)⟩,
    ⟨some (0, false), .mov (.r 1)⟩,
    ⟨some (1, false), .ixa 8 (.l 0) (.v (.c (.d (.int .i64 0))))⟩,
    ⟨some (2, false), .ld true 8 (.l 0)⟩,
    ⟨some (3, false), .vc 21 [(.l 0)]⟩,
    ⟨none, .pick (.l 4) (.v (.c (.d (.bool true)))) (.l 0)⟩,
    ⟨none, .mov (.l 0)⟩,
    ⟨some (0, false), .mov (.r 6)⟩,
    ⟨some (1, false), .bin .neq (.l 0) (.v (.c (.d (.int .i64 0))))⟩,
    ⟨none, .pick (.l 2) (.v (.c (.d (.bool true)))) (.l 0)⟩] [(18, 0)] []) (
  .cond (.r 18) (
  .seq (.reg false [⟨none, .mov (.v (.c (.d (.bool false))))⟩] [(0, 0)] []) (
  .ret)) (
  .skip))) (
  .seq (.seq (.reg false [⟨none, .mov (.r 5)⟩,
    ⟨none, .bin .neq (.l 0) (.v (.c (.d (.str [99, 101, 114, 116, 105, 102, 105, 99, 97, 116, 101, 10, 112, 111, 108, 105, 99, 105, 101, 115, 10, 112, 111, 108, 105, 99, 121, 32, 49, 46, 50, 46, 51, 10, 112, 111, 108, 105, 99, 121, 32, 50, 46, 53, 46, 50, 57, 46, 51, 50, 46, 48, 10, 109, 97, 112, 112, 105, 110, 103, 115, 10, 109, 97, 112, 32, 49, 46, 50, 46, 51, 32, 49, 46, 50, 46, 52, 10, 99, 101, 114, 116, 105, 102, 105, 99, 97, 116, 101, 10, 112, 111, 108, 105, 99, 105, 101, 115, 10, 112, 111, 108, 105, 99, 121, 32, 49, 46, 50, 46, 52, 10]))))⟩,
    ⟨none, .mov (.l 0)⟩,
    ⟨some (0, false), .bld [.bool false, .bool false, .nils, .bool false, .nils, .int .i64 0, .int .i64 0, .int .i64 0] [(1, 1, (.v (.c (.d (.bool true))))), (5, 1, (.v (.c (.d (.int .i64 (-1)))))), (6, 1, (.v (.c (.d (.int .i64 (-1)))))), (7, 1, (.v (.c (.d (.int .i64 (-1))))))]⟩,
    ⟨some (1, false), .vc 14 [(.l 0)]⟩,
    ⟨some (2, false), .bin .neq (.l 0) (.v (.c (.d (.int .i64 17))))⟩,
    ⟨none, .pick (.l 3) (.v (.c (.d (.bool true)))) (.l 0)⟩] [(19, 0)] []) (
  .cond (.r 19) (
  .seq (.reg false [⟨none, .mov (.v (.c (.d (.bool false))))⟩] [(0, 0)] []) (
  .ret)) (
  .skip))) (
  .seq (.reg false [⟨none, .hc (.v (.c (.d (.fn 32 [] [])))) [(.v (.c (.d (.str [99, 101, 114, 116, 105, 102, 105, 99, 97, 116, 101, 10, 114, 101, 113, 117, 105, 114, 101, 32, 48, 10]))))]⟩,
    ⟨none, .mov (.l 0)⟩,
    ⟨none, .ext (.l 0) 0⟩,
    ⟨none, .ext (.l 1) 1⟩,
    ⟨none, .ext (.l 2) 2⟩,
    ⟨none, .mov (.l 2)⟩,
    ⟨none, .mov (.l 2)⟩,
    ⟨none, .mov (.l 2)⟩] [(7, 2), (8, 1), (9, 0)] []) (
  .seq (.reg false [⟨none, .hc (.v (.c (.d (.fn 32 [] [])))) [(.v (.c (.d (.str [99, 101, 114, 116, 105, 102, 105, 99, 97, 116, 101, 10, 114, 101, 113, 117, 105, 114, 101, 32, 48, 48, 10]))))]⟩,
    ⟨none, .mov (.l 0)⟩,
    ⟨none, .ext (.l 0) 0⟩,
    ⟨none, .ext (.l 1) 1⟩,
    ⟨none, .ext (.l 2) 2⟩,
    ⟨none, .mov (.l 2)⟩,
    ⟨none, .mov (.l 2)⟩,
    ⟨none, .mov (.l 2)⟩] [(10, 1), (11, 0)] []) (
  .seq (.reg false [⟨none, .hc (.v (.c (.d (.fn 32 [] [])))) [(.v (.c (.d (.str [99, 101, 114, 116, 105, 102, 105, 99, 97, 116, 101, 10, 112, 111, 108, 105, 99, 121, 32, 49, 46, 50, 46, 51, 10]))))]⟩,
    ⟨none, .mov (.l 0)⟩,
    ⟨none, .ext (.l 0) 0⟩,
    ⟨none, .ext (.l 1) 1⟩,
    ⟨none, .ext (.l 2) 2⟩,
    ⟨none, .mov (.l 2)⟩,
    ⟨none, .mov (.l 2)⟩,
    ⟨none, .mov (.l 2)⟩] [(12, 1), (13, 0)] []) (
  .seq (.reg false [⟨none, .hc (.v (.c (.d (.fn 32 [] [])))) [(.v (.c (.d (.str [99, 101, 114, 116, 105, 102, 105, 99, 97, 116, 101]))))]⟩,
    ⟨none, .mov (.l 0)⟩,
    ⟨none, .ext (.l 0) 0⟩,
    ⟨none, .ext (.l 1) 1⟩,
    ⟨none, .ext (.l 2) 2⟩,
    ⟨none, .mov (.l 2)⟩,
    ⟨none, .mov (.l 2)⟩,
    ⟨none, .mov (.l 2)⟩] [(14, 1), (15, 0)] []) (
  .seq (.reg false [⟨none, .hc (.v (.c (.d (.fn 32 [] [])))) [(.v (.c (.d (.str []))))]⟩,
    ⟨none, .mov (.l 0)⟩,
    ⟨none, .ext (.l 0) 0⟩,
    ⟨none, .ext (.l 1) 1⟩,
    ⟨none, .ext (.l 2) 2⟩,
    ⟨none, .mov (.l 2)⟩,
    ⟨none, .mov (.l 2)⟩,
    ⟨none, .mov (.l 2)⟩] [(16, 1), (17, 0)] []) (
  .seq (.reg false [⟨none, .mov (.r 9)⟩,
    ⟨none, .bin .eql (.l 0) (.v (.c (.d (.int .i64 0))))⟩,
    ⟨none, .mov (.l 0)⟩,
    ⟨some (0, true), .mov (.r 8)⟩,
    ⟨some (1, true), .bin .eql (.l 0) (.v (.c (.d (.int .i64 0))))⟩,
    ⟨none, .pick (.l 2) (.l 0) (.v (.c (.d (.bool false))))⟩,
    ⟨none, .mov (.l 0)⟩,
    ⟨some (0, true), .mov (.r 7)⟩,
    ⟨some (1, true), .len (.l 0)⟩,
    ⟨some (2, true), .bin .eql (.l 0) (.v (.c (.d (.int .i64 1))))⟩,
    ⟨none, .pick (.l 3) (.l 0) (.v (.c (.d (.bool false))))⟩,
    ⟨none, .mov (.l 0)⟩,
    ⟨some (0, true), .mov (.r 7)⟩,
    ⟨some (1, true), .ixa 8 (.l 0) (.v (.c (.d (.int .i64 0))))⟩,
    ⟨some (2, true), .fa 5 (.l 0)⟩,
    ⟨some (3, true), .ld false 1 (.l 0)⟩,
    ⟨some (4, true), .bin .eql (.l 0) (.v (.c (.d (.int .i64 0))))⟩,
    ⟨none, .pick (.l 5) (.l 0) (.v (.c (.d (.bool false))))⟩,
    ⟨none, .mov (.l 0)⟩,
    ⟨some (0, true), .mov (.r 7)⟩,
    ⟨some (1, true), .ixa 8 (.l 0) (.v (.c (.d (.int .i64 0))))⟩,
    ⟨some (2, true), .fa 6 (.l 0)⟩,
    ⟨some (3, true), .ld false 1 (.l 0)⟩,
    ⟨some (4, true), .bin .eql (.l 0) (.v (.c (.d (.int .i64 (-1)))))⟩,
    ⟨none, .pick (.l 5) (.l 0) (.v (.c (.d (.bool false))))⟩,
    ⟨none, .mov (.l 0)⟩,
    ⟨some (0, true), .mov (.r 10)⟩,
    ⟨some (1, true), .bin .eql (.l 0) (.v (.c (.d (.int .i64 2))))⟩,
    ⟨none, .pick (.l 2) (.l 0) (.v (.c (.d (.bool false))))⟩,
    ⟨none, .mov (.l 0)⟩,
    ⟨some (0, true), .mov (.r 11)⟩,
    ⟨some (1, true), .bin .eql (.l 0) (.v (.c (.d (.int .i64 6))))⟩,
    ⟨none, .pick (.l 2) (.l 0) (.v (.c (.d (.bool false))))⟩,
    ⟨none, .mov (.l 0)⟩,
    ⟨some (0, true), .mov (.r 12)⟩,
    ⟨some (1, true), .bin .eql (.l 0) (.v (.c (.d (.int .i64 2))))⟩,
    ⟨none, .pick (.l 2) (.l 0) (.v (.c (.d (.bool false))))⟩,
    ⟨none, .mov (.l 0)⟩,
    ⟨some (0, true), .mov (.r 13)⟩,
    ⟨some (1, true), .bin .eql (.l 0) (.v (.c (.d (.int .i64 6))))⟩,
    ⟨none, .pick (.l 2) (.l 0) (.v (.c (.d (.bool false))))⟩,
    ⟨none, .mov (.l 0)⟩,
    ⟨some (0, true), .mov (.r 14)⟩,
    ⟨some (1, true), .bin .eql (.l 0) (.v (.c (.d (.int .i64 1))))⟩,
    ⟨none, .pick (.l 2) (.l 0) (.v (.c (.d (.bool false))))⟩,
    ⟨none, .mov (.l 0)⟩,
    ⟨some (0, true), .mov (.r 15)⟩,
    ⟨some (1, true), .bin .eql (.l 0) (.v (.c (.d (.int .i64 6))))⟩,
    ⟨none, .pick (.l 2) (.l 0) (.v (.c (.d (.bool false))))⟩,
    ⟨none, .mov (.l 0)⟩,
    ⟨some (0, true), .mov (.r 16)⟩,
    ⟨some (1, true), .bin .eql (.l 0) (.v (.c (.d (.int .i64 0))))⟩,
    ⟨none, .pick (.l 2) (.l 0) (.v (.c (.d (.bool false))))⟩,
    ⟨none, .mov (.l 0)⟩,
    ⟨some (0, true), .mov (.r 17)⟩,
    ⟨some (1, true), .bin .eql (.l 0) (.v (.c (.d (.int .i64 17))))⟩,
    ⟨none, .pick (.l 2) (.l 0) (.v (.c (.d (.bool false))))⟩,
    ⟨none, .mov (.l 0)⟩] [(0, 0)] []) (
  .ret)))))))))))))⟩
def fn14L0 : I := .seq (.reg false [⟨none, .bin .lss (.r 17) (.r 16)⟩] [(18, 0)] []) (
  .seq (.cond (.r 18) (
  .skip) (
  .exit 2)) (
  .seq (.block 3 (
  .seq (.reg false [⟨none, .mov (.r 17)⟩,
    ⟨none, .ixa 34 (.r 15) (.r 17)⟩,
    ⟨none, .ld true 34 (.l 0)⟩,
    ⟨none, .pre⟩,
    ⟨none, .mov (.l 3)⟩,
    ⟨none, .ini 34 (.l 2)⟩] [(6, 1), (7, 0)] []) (
  .seq (.seq (.reg false [⟨none, .fa 0 (.r 7)⟩,
    ⟨none, .ld true 17 (.l 0)⟩,
    ⟨none, .vc 52 [(.l 0)]⟩,
    ⟨none, .mov (.l 0)⟩] [(8, 0)] []) (
  .seq (.reg false [⟨none, .mov (.r 8)⟩,
    ⟨none, .bin .neq (.l 0) (.v (.c (.d (.int .i64 0))))⟩] [(19, 0)] []) (
  .cond (.r 19) (
  .seq (.reg false [⟨none, .mov (.r 8)⟩,
    ⟨none, .mov (.l 0)⟩] [(2, 0)] []) (
  .ret)) (
  .skip)))) (
  .seq (.seq (.reg false [⟨none, .fa 17 (.r 7)⟩,
    ⟨none, .ld true 17 (.l 0)⟩,
    ⟨none, .vc 52 [(.l 0)]⟩,
    ⟨none, .mov (.l 0)⟩] [(9, 0)] []) (
  .seq (.reg false [⟨none, .mov (.r 9)⟩,
    ⟨none, .bin .neq (.l 0) (.v (.c (.d (.int .i64 0))))⟩] [(20, 0)] []) (
  .cond (.r 20) (
  .seq (.reg false [⟨none, .mov (.r 9)⟩,
    ⟨none, .mov (.l 0)⟩] [(2, 0)] []) (
  .ret)) (
  .skip)))) (
  .seq (.reg true [⟨none, .fa 4 (.r 1)⟩,
    ⟨none, .ld false 1 (.l 0)⟩,
    ⟨none, .mov (.r 6)⟩,
    ⟨none, .slc 34 (.l 1) none (some (.l 0)) none⟩,
    ⟨none, .ld true 34 (.r 7)⟩,
    ⟨none, .vc 53 [(.l 1), (.l 0)]⟩] [(21, 0)] []) (
  .cond (.r 21) (
  .seq (.reg false [⟨none, .mov (.v (.c (.d (.int .i64 14))))⟩] [(2, 0)] []) (
  .ret)) (
  .skip))))))) (
  .reg false [⟨none, .bin .add (.r 17) (.v (.c (.d (.int .i64 1))))⟩,
    ⟨none, .mov (.l 0)⟩] [(17, 0)] [])))
def fn14L1 : I := .seq (.reg false [⟨none, .bin .lss (.r 12) (.r 11)⟩] [(13, 0)] []) (
  .seq (.cond (.r 13) (
  .skip) (
  .exit 0)) (
  .seq (.block 1 (
  .seq (.reg false [⟨none, .mov (.r 12)⟩,
    ⟨none, .mov (.l 0)⟩] [(4, 0)] []) (
  .seq (.reg false [⟨none, .fa 2 (.r 1)⟩,
    ⟨none, .ld false 1 (.l 0)⟩,
    ⟨none, .mov (.r 4)⟩,
    ⟨none, .vc 51 [(.l 1), (.l 0)]⟩,
    ⟨none, .mov (.l 0)⟩] [(5, 0)] []) (
  .seq (.reg false [⟨none, .mov (.r 5)⟩,
    ⟨none, .bin .neq (.l 0) (.v (.c (.d (.int .i64 0))))⟩] [(14, 0)] []) (
  .cond (.r 14) (
  .seq (.reg false [⟨none, .mov (.r 5)⟩,
    ⟨none, .mov (.l 0)⟩] [(2, 0)] []) (
  .ret)) (
  .skip)))))) (
  .reg false [⟨none, .bin .add (.r 12) (.v (.c (.d (.int .i64 1))))⟩,
    ⟨none, .mov (.l 0)⟩] [(12, 0)] [])))
def fn14 : Fn := ⟨1, 22, [0, 1, 2, 3, 4, 5, 6, 7, 8, 9, 13, 17, 18, 19, 26, 30, 31, 32, 33, 41, 47, 54], [.r 2],
  .seq (.reg false [⟨none, .box (.r 0)⟩,
    ⟨none, .mov (.v (.c (.d (.int .i64 0))))⟩] [(1, 1), (2, 0)] []) (
  .seq (.seq (.reg false [⟨none, .ld true 8 (.r 1)⟩,
    ⟨none, .vc 50 [(.l 0)]⟩,
    ⟨none, .mov (.l 0)⟩] [(3, 0)] []) (
  .seq (.reg false [⟨none, .mov (.r 3)⟩,
    ⟨none, .bin .neq (.l 0) (.v (.c (.d (.int .i64 0))))⟩] [(10, 0)] []) (
  .cond (.r 10) (
  .seq (.reg false [⟨none, .mov (.r 3)⟩,
    ⟨none, .mov (.l 0)⟩] [(2, 0)] []) (
  .ret)) (
  .skip)))) (
  .seq (.seq (.reg false [⟨none, .fa 2 (.r 1)⟩,
    ⟨none, .ld false 1 (.l 0)⟩,
    ⟨none, .len (.l 0)⟩,
    ⟨none, .mov (.v (.c (.d (.int .i64 0))))⟩] [(11, 1), (12, 0)] []) (
  .block 0 (
  .loop (some [1, 11, 12]) fn14L1))) (
  .seq (.seq (.reg false [⟨none, .fa 4 (.r 1)⟩,
    ⟨none, .ld false 1 (.l 0)⟩,
    ⟨none, .len (.l 0)⟩,
    ⟨none, .mov (.v (.c (.d (.int .i64 0))))⟩] [(15, 2), (16, 1), (17, 0)] []) (
  .block 2 (
  .loop (some [1, 15, 16, 17]) fn14L0))) (
  .seq (.reg false [⟨none, .mov (.v (.c (.d (.int .i64 0))))⟩] [(2, 0)] []) (
  .ret)))))⟩
def fn15L0 : I := .seq (.reg false [⟨none, .bin .lss (.r 8) (.r 7)⟩] [(9, 0)] []) (
  .seq (.cond (.r 9) (
  .skip) (
  .exit 0)) (
  .seq (.block 1 (
  .seq (.reg false [⟨none, .ixa 8 (.r 6) (.r 8)⟩,
    ⟨none, .ld true 8 (.l 0)⟩,
    ⟨none, .pre⟩,
    ⟨none, .ini 8 (.l 1)⟩] [(2, 0)] []) (
  .seq (.reg false [⟨none, .ld true 8 (.r 2)⟩,
    ⟨none, .vc 14 [(.l 0)]⟩,
    ⟨none, .mov (.l 0)⟩] [(3, 0)] []) (
  .seq (.reg false [⟨none, .mov (.r 3)⟩,
    ⟨none, .bin .neq (.l 0) (.v (.c (.d (.int .i64 0))))⟩] [(10, 0)] []) (
  .cond (.r 10) (
  .seq (.reg false [⟨none, .mov (.r 3)⟩,
    ⟨none, .mov (.l 0)⟩] [(1, 0)] []) (
  .ret)) (
  .skip)))))) (
  .reg false [⟨none, .bin .add (.r 8) (.v (.c (.d (.int .i64 1))))⟩,
    ⟨none, .mov (.l 0)⟩] [(8, 0)] [])))
def fn15 : Fn := ⟨1, 11, [0, 2, 4, 5, 8, 11, 12, 13, 14, 15, 21], [.r 1],
  .seq (.reg false [⟨none, .mov (.v (.c (.d (.int .i64 0))))⟩] [(1, 0)] []) (
  .seq (.seq (.reg false [⟨none, .mov (.r 0)⟩,
    ⟨none, .len (.l 0)⟩,
    ⟨none, .bin .eql (.l 0) (.v (.c (.d (.int .i64 0))))⟩] [(4, 0)] []) (
  .cond (.r 4) (
  .seq (.reg false [⟨none, .mov (.v (.c (.d (.int .i64 17))))⟩] [(1, 0)] []) (
  .ret)) (
  .skip))) (
  .seq (.seq (.reg false [⟨none, .mov (.r 0)⟩,
    ⟨none, .len (.l 0)⟩,
    ⟨none, .bin .gtr (.l 0) (.v (.c (.d (.int .i64 64))))⟩] [(5, 0)] []) (
  .cond (.r 5) (
  .seq (.reg false [⟨none, .mov (.v (.c (.d (.int .i64 3))))⟩] [(1, 0)] []) (
  .ret)) (
  .skip))) (
  .seq (.seq (.reg false [⟨none, .mov (.r 0)⟩,
    ⟨none, .len (.l 0)⟩,
    ⟨none, .mov (.v (.c (.d (.int .i64 0))))⟩] [(6, 2), (7, 1), (8, 0)] []) (
  .block 0 (
  .loop (some [6, 7, 8]) fn15L0))) (
  .seq (.reg false [⟨none, .mov (.v (.c (.d (.int .i64 0))))⟩] [(1, 0)] []) (
  .ret)))))⟩
def fn16 : Fn := ⟨1, 4, [0, 1, 2, 3], [.r 2, .r 3],
  .seq (.reg false [⟨none, .box (.r 0)⟩,
    ⟨none, .mov (.v (.c (.d (.nils))))⟩,
    ⟨none, .mov (.v (.c (.d (.bool false))))⟩] [(1, 2), (2, 1), (3, 0)] []) (
  .seq (.reg true [⟨none, .ld true 8 (.r 1)⟩,
    ⟨none, .vc 54 []⟩,
    ⟨none, .hc (.v (.c (.d (.fn 17 [] [])))) [(.l 1), (.l 0)]⟩,
    ⟨none, .ext (.l 0) 0⟩,
    ⟨none, .ext (.l 1) 1⟩,
    ⟨none, .mov (.l 1)⟩,
    ⟨none, .mov (.l 1)⟩] [(2, 1), (3, 0)] []) (
  .ret))⟩
def fn17L0 : I := .seq (.reg false [⟨none, .bin .lss (.r 10) (.r 9)⟩] [(11, 0)] []) (
  .seq (.cond (.r 11) (
  .skip) (
  .exit 0)) (
  .seq (.block 1 (
  .seq (.reg false [⟨none, .ixa 18 (.r 8) (.r 10)⟩,
    ⟨none, .ld true 18 (.l 0)⟩,
    ⟨none, .pre⟩,
    ⟨none, .ini 18 (.l 1)⟩] [(6, 0)] []) (
  .seq (.reg false [⟨none, .fa 0 (.r 6)⟩,
    ⟨none, .ld true 17 (.l 0)⟩,
    ⟨none, .ld true 17 (.r 3)⟩,
    ⟨none, .eqa false 17 (.l 1) (.l 0)⟩] [(12, 0)] []) (
  .cond (.r 12) (
  .seq (.reg false [⟨none, .fa 17 (.r 6)⟩,
    ⟨none, .ld false 1 (.l 0)⟩,
    ⟨none, .hc (.v (.c (.d (.fn 55 [] [])))) [(.l 0)]⟩,
    ⟨none, .mov (.l 0)⟩,
    ⟨none, .mov (.v (.c (.d (.bool true))))⟩] [(4, 1), (5, 0)] []) (
  .ret)) (
  .skip))))) (
  .reg false [⟨none, .bin .add (.r 10) (.v (.c (.d (.int .i64 1))))⟩,
    ⟨none, .mov (.l 0)⟩] [(10, 0)] [])))
def fn17 : Fn := ⟨2, 13, [0, 1, 2, 3, 4, 5, 7, 10, 12, 13, 14, 15, 21], [.r 4, .r 5],
  .seq (.reg false [⟨none, .box (.r 0)⟩,
    ⟨none, .box (.r 1)⟩,
    ⟨none, .mov (.v (.c (.d (.nils))))⟩,
    ⟨none, .mov (.v (.c (.d (.bool false))))⟩] [(2, 3), (3, 2), (4, 1), (5, 0)] []) (
  .seq (.seq (.reg false [⟨none, .ld true 8 (.r 2)⟩,
    ⟨none, .vc 14 [(.l 0)]⟩,
    ⟨none, .bin .neq (.l 0) (.v (.c (.d (.int .i64 0))))⟩] [(7, 0)] []) (
  .cond (.r 7) (
  .seq (.reg false [⟨none, .mov (.v (.c (.d (.nils))))⟩,
    ⟨none, .mov (.v (.c (.d (.bool false))))⟩] [(4, 1), (5, 0)] []) (
  .ret)) (
  .skip))) (
  .seq (.seq (.reg false [⟨none, .fa 2 (.r 2)⟩,
    ⟨none, .ld false 1 (.l 0)⟩,
    ⟨none, .len (.l 0)⟩,
    ⟨none, .mov (.v (.c (.d (.int .i64 0))))⟩] [(8, 2), (9, 1), (10, 0)] []) (
  .block 0 (
  .loop (some [3, 8, 9, 10]) fn17L0))) (
  .seq (.reg false [⟨none, .mov (.v (.c (.d (.nils))))⟩,
    ⟨none, .mov (.v (.c (.d (.bool false))))⟩] [(4, 1), (5, 0)] []) (
  .ret))))⟩
def fn18L0 : I := .seq (.reg false [⟨none, .bin .lss (.r 9) (.r 8)⟩] [(10, 0)] []) (
  .seq (.cond (.r 10) (
  .skip) (
  .exit 0)) (
  .seq (.block 1 (
  .seq (.reg false [⟨none, .ixa 8 (.r 7) (.r 9)⟩,
    ⟨none, .ld true 8 (.l 0)⟩,
    ⟨none, .pre⟩,
    ⟨none, .ini 8 (.l 1)⟩] [(5, 0)] []) (
  .seq (.reg false [⟨none, .ld true 8 (.r 5)⟩,
    ⟨none, .hc (.v (.c (.d (.fn 56 [] [])))) [(.r 4), (.l 0)]⟩] [] []) (
  .seq (.reg false [⟨none, .hc (.v (.c (.d (.fn 57 [] [])))) [(.r 4)]⟩,
    ⟨none, .bin .gtr (.l 0) (.v (.c (.d (.int .i64 1048576))))⟩] [(11, 0)] []) (
  .cond (.r 11) (
  .seq (.reg false [⟨none, .mov (.v (.c (.d (.str []))))⟩,
    ⟨none, .mov (.v (.c (.d (.int .i64 3))))⟩] [(1, 1), (2, 0)] []) (
  .ret)) (
  .skip)))))) (
  .reg false [⟨none, .bin .add (.r 9) (.v (.c (.d (.int .i64 1))))⟩,
    ⟨none, .mov (.l 0)⟩] [(9, 0)] [])))
def fn18 : Fn := ⟨1, 12, [0, 2, 3, 4, 5, 7, 11, 13, 14, 15, 16, 22], [.r 1, .r 2],
  .seq (.reg false [⟨none, .mov (.v (.c (.d (.str []))))⟩,
    ⟨none, .mov (.v (.c (.d (.int .i64 0))))⟩] [(1, 1), (2, 0)] []) (
  .seq (.seq (.reg false [⟨none, .mov (.r 0)⟩,
    ⟨none, .vc 15 [(.l 0)]⟩,
    ⟨none, .mov (.l 0)⟩] [(3, 0)] []) (
  .seq (.reg false [⟨none, .mov (.r 3)⟩,
    ⟨none, .bin .neq (.l 0) (.v (.c (.d (.int .i64 0))))⟩] [(6, 0)] []) (
  .cond (.r 6) (
  .seq (.reg false [⟨none, .mov (.r 3)⟩,
    ⟨none, .mov (.v (.c (.d (.str []))))⟩,
    ⟨none, .mov (.l 1)⟩] [(1, 1), (2, 0)] []) (
  .ret)) (
  .skip)))) (
  .seq (.reg false [⟨none, .newb 103⟩] [(4, 0)] []) (
  .seq (.seq (.reg false [⟨none, .mov (.r 0)⟩,
    ⟨none, .len (.l 0)⟩,
    ⟨none, .mov (.v (.c (.d (.int .i64 0))))⟩] [(7, 2), (8, 1), (9, 0)] []) (
  .block 0 (
  .loop (some [4, 7, 8, 9]) fn18L0))) (
  .seq (.reg false [⟨none, .hc (.v (.c (.d (.fn 58 [] [])))) [(.r 4)]⟩,
    ⟨none, .mov (.l 0)⟩,
    ⟨none, .mov (.v (.c (.d (.int .i64 0))))⟩] [(1, 1), (2, 0)] []) (
  .ret)))))⟩
def fn19L0 : I := .seq (.reg false [⟨none, .bin .lss (.r 8) (.r 7)⟩] [(9, 0)] []) (
  .seq (.cond (.r 9) (
  .skip) (
  .exit 0)) (
  .seq (.block 1 (
  .seq (.reg false [⟨none, .ixa 18 (.r 6) (.r 8)⟩,
    ⟨none, .ld true 18 (.l 0)⟩,
    ⟨none, .pre⟩,
    ⟨none, .ini 18 (.l 1)⟩] [(4, 0)] []) (
  .seq (.reg true [⟨none, .fa 0 (.r 4)⟩,
    ⟨none, .ld true 17 (.l 0)⟩,
    ⟨none, .vc 54 []⟩,
    ⟨none, .eqa true 17 (.l 1) (.l 0)⟩] [(10, 0)] []) (
  .cond (.r 10) (
  .reg false [⟨none, .mov (.r 3)⟩,
    ⟨none, .fa 0 (.r 4)⟩,
    ⟨none, .ld true 17 (.l 0)⟩,
    ⟨none, .bsl 1 17 [.int .u8 0, .int .u32 0, .int .u32 0, .int .u32 0, .int .u32 0, .int .u32 0, .int .u32 0, .int .u32 0, .int .u32 0, .int .u32 0, .int .u32 0, .int .u32 0, .int .u32 0, .int .u32 0, .int .u32 0, .int .u32 0, .int .u32 0] [(0, 17, (.l 0))]⟩,
    ⟨none, .app 17 (.l 3) (.l 0)⟩,
    ⟨none, .mov (.l 0)⟩] [(3, 0)] []) (
  .skip))))) (
  .reg false [⟨none, .bin .add (.r 8) (.v (.c (.d (.int .i64 1))))⟩,
    ⟨none, .mov (.l 0)⟩] [(8, 0)] [])))
def fn19 : Fn := ⟨1, 11, [0, 1, 2, 3, 5, 8, 10, 11, 12, 13, 19], [.r 2],
  .seq (.reg false [⟨none, .box (.r 0)⟩,
    ⟨none, .mov (.v (.c (.d (.nils))))⟩] [(1, 1), (2, 0)] []) (
  .seq (.seq (.reg false [⟨none, .ld true 8 (.r 1)⟩,
    ⟨none, .vc 14 [(.l 0)]⟩,
    ⟨none, .bin .neq (.l 0) (.v (.c (.d (.int .i64 0))))⟩] [(5, 0)] []) (
  .cond (.r 5) (
  .seq (.reg false [⟨none, .mov (.v (.c (.d (.nils))))⟩] [(2, 0)] []) (
  .ret)) (
  .skip))) (
  .seq (.reg false [⟨none, .mov (.v (.c (.d (.nils))))⟩] [(3, 0)] []) (
  .seq (.seq (.reg false [⟨none, .fa 2 (.r 1)⟩,
    ⟨none, .ld false 1 (.l 0)⟩,
    ⟨none, .len (.l 0)⟩,
    ⟨none, .mov (.v (.c (.d (.int .i64 0))))⟩] [(6, 2), (7, 1), (8, 0)] []) (
  .block 0 (
  .seq (.fresh 3 none 17) (
  .loop (some [3, 6, 7, 8]) fn19L0)))) (
  .seq (.reg false [⟨none, .mov (.r 3)⟩,
    ⟨none, .hc (.v (.c (.d (.fn 59 [] [])))) [(.l 0)]⟩,
    ⟨none, .mov (.l 0)⟩] [(2, 0)] []) (
  .ret)))))⟩
def fn20L0 : I := .seq (.reg false [⟨none, .bin .lss (.r 8) (.r 7)⟩] [(9, 0)] []) (
  .seq (.cond (.r 9) (
  .skip) (
  .exit 0)) (
  .seq (.block 1 (
  .seq (.reg false [⟨none, .ixa 34 (.r 6) (.r 8)⟩,
    ⟨none, .ld true 34 (.l 0)⟩,
    ⟨none, .pre⟩,
    ⟨none, .ini 34 (.l 1)⟩] [(4, 0)] []) (
  .reg false [⟨none, .mov (.r 3)⟩,
    ⟨none, .fa 0 (.r 4)⟩,
    ⟨none, .ld true 17 (.l 0)⟩,
    ⟨none, .bsl 1 17 [.int .u8 0, .int .u32 0, .int .u32 0, .int .u32 0, .int .u32 0, .int .u32 0, .int .u32 0, .int .u32 0, .int .u32 0, .int .u32 0, .int .u32 0, .int .u32 0, .int .u32 0, .int .u32 0, .int .u32 0, .int .u32 0, .int .u32 0] [(0, 17, (.l 0))]⟩,
    ⟨none, .app 17 (.l 3) (.l 0)⟩,
    ⟨none, .mov (.l 0)⟩] [(3, 0)] []))) (
  .reg false [⟨none, .bin .add (.r 8) (.v (.c (.d (.int .i64 1))))⟩,
    ⟨none, .mov (.l 0)⟩] [(8, 0)] [])))
def fn20 : Fn := ⟨1, 10, [0, 1, 2, 3, 5, 8, 10, 11, 12, 13], [.r 2],
  .seq (.reg false [⟨none, .box (.r 0)⟩,
    ⟨none, .mov (.v (.c (.d (.nils))))⟩] [(1, 1), (2, 0)] []) (
  .seq (.seq (.reg false [⟨none, .ld true 8 (.r 1)⟩,
    ⟨none, .vc 14 [(.l 0)]⟩,
    ⟨none, .bin .neq (.l 0) (.v (.c (.d (.int .i64 0))))⟩] [(5, 0)] []) (
  .cond (.r 5) (
  .seq (.reg false [⟨none, .mov (.v (.c (.d (.nils))))⟩] [(2, 0)] []) (
  .ret)) (
  .skip))) (
  .seq (.reg false [⟨none, .mov (.v (.c (.d (.nils))))⟩] [(3, 0)] []) (
  .seq (.seq (.reg false [⟨none, .fa 4 (.r 1)⟩,
    ⟨none, .ld false 1 (.l 0)⟩,
    ⟨none, .len (.l 0)⟩,
    ⟨none, .mov (.v (.c (.d (.int .i64 0))))⟩] [(6, 2), (7, 1), (8, 0)] []) (
  .block 0 (
  .seq (.fresh 3 none 17) (
  .loop (some [3, 6, 7, 8]) fn20L0)))) (
  .seq (.reg false [⟨none, .mov (.r 3)⟩,
    ⟨none, .hc (.v (.c (.d (.fn 59 [] [])))) [(.l 0)]⟩,
    ⟨none, .mov (.l 0)⟩] [(2, 0)] []) (
  .ret)))))⟩
def fn21L0 : I := .seq (.reg false [⟨none, .bin .lss (.r 7) (.r 6)⟩] [(8, 0)] []) (
  .seq (.cond (.r 8) (
  .skip) (
  .exit 0)) (
  .seq (.block 1 (
  .seq (.reg false [⟨none, .ixa 34 (.r 5) (.r 7)⟩,
    ⟨none, .ld true 34 (.l 0)⟩,
    ⟨none, .pre⟩,
    ⟨none, .ini 34 (.l 1)⟩] [(3, 0)] []) (
  .seq (.reg true [⟨none, .fa 0 (.r 3)⟩,
    ⟨none, .ld true 17 (.l 0)⟩,
    ⟨none, .vc 54 []⟩,
    ⟨none, .eqa false 17 (.l 1) (.l 0)⟩,
    ⟨none, .mov (.l 0)⟩,
    ⟨some (0, false), .fa 17 (.r 3)⟩,
    ⟨some (1, false), .ld true 17 (.l 0)⟩,
    ⟨some (2, false), .vc 54 []⟩,
    ⟨some (3, false), .eqa false 17 (.l 1) (.l 0)⟩,
    ⟨none, .pick (.l 4) (.v (.c (.d (.bool true)))) (.l 0)⟩] [(9, 0)] []) (
  .cond (.r 9) (
  .seq (.reg false [⟨none, .mov (.v (.c (.d (.bool true))))⟩] [(2, 0)] []) (
  .ret)) (
  .skip))))) (
  .reg false [⟨none, .bin .add (.r 7) (.v (.c (.d (.int .i64 1))))⟩,
    ⟨none, .mov (.l 0)⟩] [(7, 0)] [])))
def fn21 : Fn := ⟨1, 10, [0, 1, 2, 4, 7, 9, 10, 11, 12, 24], [.r 2],
  .seq (.reg false [⟨none, .box (.r 0)⟩,
    ⟨none, .mov (.v (.c (.d (.bool false))))⟩] [(1, 1), (2, 0)] []) (
  .seq (.seq (.reg false [⟨none, .ld true 8 (.r 1)⟩,
    ⟨none, .vc 14 [(.l 0)]⟩,
    ⟨none, .bin .neq (.l 0) (.v (.c (.d (.int .i64 0))))⟩] [(4, 0)] []) (
  .cond (.r 4) (
  .seq (.reg false [⟨none, .mov (.v (.c (.d (.bool false))))⟩] [(2, 0)] []) (
  .ret)) (
  .skip))) (
  .seq (.seq (.reg false [⟨none, .fa 4 (.r 1)⟩,
    ⟨none, .ld false 1 (.l 0)⟩,
    ⟨none, .len (.l 0)⟩,
    ⟨none, .mov (.v (.c (.d (.int .i64 0))))⟩] [(5, 2), (6, 1), (7, 0)] []) (
  .block 0 (
  .loop (some [5, 6, 7]) fn21L0))) (
  .seq (.reg false [⟨none, .mov (.v (.c (.d (.bool false))))⟩] [(2, 0)] []) (
  .ret))))⟩
def fn23 : Fn := ⟨1, 3, [0, 2, 5], [.cell 1 17 true],
  .seq (.reg false [⟨none, .new [.int .u8 0, .int .u32 0, .int .u32 0, .int .u32 0, .int .u32 0, .int .u32 0, .int .u32 0, .int .u32 0, .int .u32 0, .int .u32 0, .int .u32 0, .int .u32 0, .int .u32 0, .int .u32 0, .int .u32 0, .int .u32 0, .int .u32 0]⟩] [(1, 0)] []) (
  .seq (.seq (.reg false [⟨none, .mov (.r 0)⟩,
    ⟨none, .bin .rem (.l 0) (.v (.c (.d (.int .u8 7))))⟩,
    ⟨none, .bin .eql (.l 0) (.v (.c (.d (.int .u8 6))))⟩] [(2, 0)] []) (
  .cond (.r 2) (
  .seq (.reg false [⟨none, .vc 25 []⟩,
    ⟨none, .st 17 (.r 1) (.l 0)⟩] [] []) (
  .ret)) (
  .skip))) (
  .seq (.reg false [⟨none, .mov (.r 0)⟩,
    ⟨none, .bin .rem (.l 0) (.v (.c (.d (.int .u8 7))))⟩,
    ⟨none, .cvi .u32 (.l 0)⟩,
    ⟨none, .bin .add (.v (.c (.d (.int .u32 3)))) (.l 0)⟩,
    ⟨none, .bld [.int .u32 0, .int .u32 0, .int .u32 0, .int .u32 0, .int .u32 0, .int .u32 0, .int .u32 0, .int .u32 0, .int .u32 0, .int .u32 0, .int .u32 0, .int .u32 0, .int .u32 0, .int .u32 0, .int .u32 0, .int .u32 0] [(0, 1, (.v (.c (.d (.int .u32 1))))), (1, 1, (.v (.c (.d (.int .u32 2))))), (2, 1, (.l 0))]⟩,
    ⟨none, .bld [.int .u8 0, .int .u32 0, .int .u32 0, .int .u32 0, .int .u32 0, .int .u32 0, .int .u32 0, .int .u32 0, .int .u32 0, .int .u32 0, .int .u32 0, .int .u32 0, .int .u32 0, .int .u32 0, .int .u32 0, .int .u32 0, .int .u32 0] [(0, 1, (.v (.c (.d (.int .u8 3))))), (1, 16, (.l 0))]⟩,
    ⟨none, .st 17 (.r 1) (.l 0)⟩] [] []) (
  .ret)))⟩
def fn25 : Fn := ⟨0, 1, [0], [.cell 0 17 true],
  .seq (.reg false [⟨none, .new [.int .u8 0, .int .u32 0, .int .u32 0, .int .u32 0, .int .u32 0, .int .u32 0, .int .u32 0, .int .u32 0, .int .u32 0, .int .u32 0, .int .u32 0, .int .u32 0, .int .u32 0, .int .u32 0, .int .u32 0, .int .u32 0, .int .u32 0]⟩] [(0, 0)] []) (
  .seq (.reg false [⟨none, .bld [.int .u32 0, .int .u32 0, .int .u32 0, .int .u32 0, .int .u32 0, .int .u32 0, .int .u32 0, .int .u32 0, .int .u32 0, .int .u32 0, .int .u32 0, .int .u32 0, .int .u32 0, .int .u32 0, .int .u32 0, .int .u32 0] [(0, 1, (.v (.c (.d (.int .u32 2))))), (1, 1, (.v (.c (.d (.int .u32 5))))), (2, 1, (.v (.c (.d (.int .u32 29))))), (3, 1, (.v (.c (.d (.int .u32 32)))))]⟩,
    ⟨none, .bld [.int .u8 0, .int .u32 0, .int .u32 0, .int .u32 0, .int .u32 0, .int .u32 0, .int .u32 0, .int .u32 0, .int .u32 0, .int .u32 0, .int .u32 0, .int .u32 0, .int .u32 0, .int .u32 0, .int .u32 0, .int .u32 0, .int .u32 0] [(0, 1, (.v (.c (.d (.int .u8 5))))), (1, 16, (.l 0))]⟩,
    ⟨none, .st 17 (.r 0) (.l 0)⟩] [] []) (
  .ret))⟩
def fn26L0 : I := .seq (.seq (.reg false [⟨none, .mov (.r 3)⟩,
    ⟨none, .mov (.r 0)⟩,
    ⟨none, .len (.l 0)⟩,
    ⟨none, .bin .lss (.l 2) (.l 0)⟩] [(5, 0)] []) (
  .cond (.r 5) (
  .skip) (
  .exit 0))) (
  .seq (.block 1 (
  .seq (.reg true [⟨none, .mov (.r 0)⟩,
    ⟨none, .mov (.r 3)⟩,
    ⟨none, .ixa 27 (.l 1) (.l 0)⟩,
    ⟨none, .ld true 27 (.l 0)⟩,
    ⟨none, .mov (.r 1)⟩,
    ⟨none, .mov (.r 3)⟩,
    ⟨none, .ixa 27 (.l 1) (.l 0)⟩,
    ⟨none, .ld true 27 (.l 0)⟩,
    ⟨none, .vc 61 [(.l 4), (.l 0)]⟩,
    ⟨none, .un .not (.l 0)⟩] [(6, 0)] []) (
  .cond (.r 6) (
  .seq (.reg false [⟨none, .mov (.v (.c (.d (.bool false))))⟩] [(2, 0)] []) (
  .ret)) (
  .skip)))) (
  .reg false [⟨none, .mov (.r 3)⟩,
    ⟨none, .bin .add (.l 0) (.v (.c (.d (.int .i64 1))))⟩,
    ⟨none, .mov (.l 0)⟩] [(3, 0)] []))
def fn26 : Fn := ⟨2, 7, [0, 1, 4, 5, 10, 14, 26], [.r 2],
  .seq (.reg false [⟨none, .mov (.v (.c (.d (.bool false))))⟩] [(2, 0)] []) (
  .seq (.seq (.reg false [⟨none, .mov (.r 0)⟩,
    ⟨none, .len (.l 0)⟩,
    ⟨none, .mov (.r 1)⟩,
    ⟨none, .len (.l 0)⟩,
    ⟨none, .bin .neq (.l 2) (.l 0)⟩] [(4, 0)] []) (
  .cond (.r 4) (
  .seq (.reg false [⟨none, .mov (.v (.c (.d (.bool false))))⟩] [(2, 0)] []) (
  .ret)) (
  .skip))) (
  .seq (.seq (.reg false [⟨none, .mov (.v (.c (.d (.int .i64 0))))⟩] [(3, 0)] []) (
  .block 0 (
  .loop (some [0, 1, 3]) fn26L0))) (
  .seq (.reg false [⟨none, .mov (.v (.c (.d (.bool true))))⟩] [(2, 0)] []) (
  .ret))))⟩
def fn28L0 : I := .seq (.seq (.reg false [⟨none, .mov (.r 3)⟩,
    ⟨none, .mov (.r 0)⟩,
    ⟨none, .len (.l 0)⟩,
    ⟨none, .bin .lss (.l 2) (.l 0)⟩] [(5, 0)] []) (
  .cond (.r 5) (
  .skip) (
  .exit 0))) (
  .seq (.block 1 (
  .seq (.reg true [⟨none, .mov (.r 0)⟩,
    ⟨none, .mov (.r 3)⟩,
    ⟨none, .ixa 17 (.l 1) (.l 0)⟩,
    ⟨none, .ld true 17 (.l 0)⟩,
    ⟨none, .mov (.r 1)⟩,
    ⟨none, .mov (.r 3)⟩,
    ⟨none, .ixa 17 (.l 1) (.l 0)⟩,
    ⟨none, .ld true 17 (.l 0)⟩,
    ⟨none, .eqa true 17 (.l 4) (.l 0)⟩] [(6, 0)] []) (
  .cond (.r 6) (
  .seq (.reg false [⟨none, .mov (.v (.c (.d (.bool false))))⟩] [(2, 0)] []) (
  .ret)) (
  .skip)))) (
  .reg false [⟨none, .mov (.r 3)⟩,
    ⟨none, .bin .add (.l 0) (.v (.c (.d (.int .i64 1))))⟩,
    ⟨none, .mov (.l 0)⟩] [(3, 0)] []))
def fn28 : Fn := ⟨2, 7, [0, 1, 4, 5, 17, 21, 32], [.r 2],
  .seq (.reg false [⟨none, .mov (.v (.c (.d (.bool false))))⟩] [(2, 0)] []) (
  .seq (.seq (.reg false [⟨none, .mov (.r 0)⟩,
    ⟨none, .len (.l 0)⟩,
    ⟨none, .mov (.r 1)⟩,
    ⟨none, .len (.l 0)⟩,
    ⟨none, .bin .neq (.l 2) (.l 0)⟩,
    ⟨none, .mov (.l 0)⟩,
    ⟨some (0, false), .mov (.r 0)⟩,
    ⟨some (1, false), .cap (.l 0)⟩,
    ⟨some (2, false), .mov (.r 0)⟩,
    ⟨some (3, false), .len (.l 0)⟩,
    ⟨some (4, false), .bin .neq (.l 2) (.l 0)⟩,
    ⟨none, .pick (.l 5) (.v (.c (.d (.bool true)))) (.l 0)⟩] [(4, 0)] []) (
  .cond (.r 4) (
  .seq (.reg false [⟨none, .mov (.v (.c (.d (.bool false))))⟩] [(2, 0)] []) (
  .ret)) (
  .skip))) (
  .seq (.seq (.reg false [⟨none, .mov (.v (.c (.d (.int .i64 0))))⟩] [(3, 0)] []) (
  .block 0 (
  .loop (some [0, 1, 3]) fn28L0))) (
  .seq (.reg false [⟨none, .mov (.v (.c (.d (.bool true))))⟩] [(2, 0)] []) (
  .ret))))⟩
def fn32L0 : I := .seq (.reg false [⟨none, .bin .lss (.r 23) (.r 22)⟩] [(24, 0)] []) (
  .seq (.cond (.r 24) (
  .skip) (
  .exit 4)) (
  .seq (.block 5 (
  .seq (.reg false [⟨none, .mov (.r 23)⟩,
    ⟨none, .mov (.l 0)⟩] [(11, 0)] []) (
  .reg true [⟨none, .ld false 1 (.r 4)⟩,
    ⟨none, .nlc (.l 0)⟩,
    ⟨none, .fa 0 (.l 0)⟩,
    ⟨none, .ld false 1 (.l 0)⟩,
    ⟨none, .mov (.r 9)⟩,
    ⟨none, .ixa 8 (.l 1) (.l 0)⟩,
    ⟨none, .fa 2 (.l 0)⟩,
    ⟨none, .ld false 1 (.l 0)⟩,
    ⟨none, .mov (.r 11)⟩,
    ⟨none, .fa 2 (.r 10)⟩,
    ⟨none, .ld false 1 (.l 0)⟩,
    ⟨none, .mov (.r 11)⟩,
    ⟨none, .ixa 18 (.l 1) (.l 0)⟩,
    ⟨none, .fa 17 (.l 0)⟩,
    ⟨none, .ld false 1 (.l 0)⟩,
    ⟨none, .vc 55 [(.l 0)]⟩,
    ⟨none, .ixa 18 (.l 8) (.l 7)⟩,
    ⟨none, .fa 17 (.l 0)⟩,
    ⟨none, .st 1 (.l 0) (.l 2)⟩] [] []))) (
  .reg false [⟨none, .bin .add (.r 23) (.v (.c (.d (.int .i64 1))))⟩,
    ⟨none, .mov (.l 0)⟩] [(23, 0)] [])))
def fn32L1 : I := .seq (.reg false [⟨none, .bin .lss (.r 20) (.r 19)⟩] [(21, 0)] []) (
  .seq (.cond (.r 21) (
  .skip) (
  .exit 2)) (
  .seq (.block 3 (
  .seq (.reg false [⟨none, .mov (.r 20)⟩,
    ⟨none, .ixa 8 (.r 18) (.r 20)⟩,
    ⟨none, .ld true 8 (.l 0)⟩,
    ⟨none, .pre⟩,
    ⟨none, .mov (.l 3)⟩,
    ⟨none, .ini 8 (.l 2)⟩] [(9, 1), (10, 0)] []) (
  .seq (.reg true [⟨none, .ld false 1 (.r 4)⟩,
    ⟨none, .nlc (.l 0)⟩,
    ⟨none, .fa 0 (.l 0)⟩,
    ⟨none, .ld false 1 (.l 0)⟩,
    ⟨none, .mov (.r 9)⟩,
    ⟨none, .fa 4 (.r 10)⟩,
    ⟨none, .ld false 1 (.l 0)⟩,
    ⟨none, .vc 65 [(.l 0)]⟩,
    ⟨none, .ixa 8 (.l 4) (.l 3)⟩,
    ⟨none, .fa 4 (.l 0)⟩,
    ⟨none, .st 1 (.l 0) (.l 2)⟩] [] []) (
  .seq (.reg true [⟨none, .ld false 1 (.r 4)⟩,
    ⟨none, .nlc (.l 0)⟩,
    ⟨none, .fa 0 (.l 0)⟩,
    ⟨none, .ld false 1 (.l 0)⟩,
    ⟨none, .mov (.r 9)⟩,
    ⟨none, .fa 2 (.r 10)⟩,
    ⟨none, .ld false 1 (.l 0)⟩,
    ⟨none, .vc 66 [(.l 0)]⟩,
    ⟨none, .ixa 8 (.l 4) (.l 3)⟩,
    ⟨none, .fa 2 (.l 0)⟩,
    ⟨none, .st 1 (.l 0) (.l 2)⟩] [] []) (
  .seq (.reg false [⟨none, .fa 2 (.r 10)⟩,
    ⟨none, .ld false 1 (.l 0)⟩,
    ⟨none, .len (.l 0)⟩,
    ⟨none, .mov (.v (.c (.d (.int .i64 0))))⟩] [(22, 1), (23, 0)] []) (
  .block 4 (
  .loop (some [1, 2, 3, 4, 9, 10, 18, 19, 20, 22, 23]) fn32L0))))))) (
  .reg false [⟨none, .bin .add (.r 20) (.v (.c (.d (.int .i64 1))))⟩,
    ⟨none, .mov (.l 0)⟩] [(20, 0)] [])))
def fn32 : Fn := ⟨1, 25, [0, 2, 3, 4, 5, 6, 7, 8, 9, 10, 11, 12, 15, 19, 20, 21, 31, 39, 44, 45, 46, 47, 73, 74, 75], [.cell 1 1 false, .cell 2 1 false, .cell 3 1 false],
  .seq (.reg false [⟨none, .new [.nils]⟩,
    ⟨none, .new [.int .i64 0]⟩,
    ⟨none, .new [.int .i64 0]⟩] [(1, 2), (2, 1), (3, 0)] []) (
  .seq (.seq (.reg false [⟨none, .mov (.r 0)⟩,
    ⟨none, .lns (.l 0)⟩,
    ⟨none, .bin .gtr (.l 0) (.v (.c (.d (.int .i64 1048576))))⟩] [(12, 0)] []) (
  .cond (.r 12) (
  .seq (.reg false [⟨none, .st 1 (.r 1) (.v (.c (.d (.nils))))⟩,
    ⟨none, .st 1 (.r 2) (.v (.c (.d (.int .i64 0))))⟩,
    ⟨none, .st 1 (.r 3) (.v (.c (.d (.int .i64 3))))⟩] [] []) (
  .ret)) (
  .skip))) (
  .seq (.reg false [⟨none, .bld [.nils, .int .i64 0] []⟩,
    ⟨none, .box (.l 0)⟩,
    ⟨none, .pre⟩,
    ⟨none, .ini 1 (.l 1)⟩] [(4, 0)] []) (
  .seq (.reg false [⟨none, .pre⟩,
    ⟨none, .ini 1 (.v (.c (.d (.int .i64 0))))⟩] [(5, 0)] []) (
  .seq (.seq (.reg false [⟨none, .mov (.r 0)⟩,
    ⟨none, .hc (.v (.c (.d (.fn 63 [] [])))) [(.l 0)]⟩] [(13, 0)] []) (
  .block 0 (
  .rf (.r 13) [14, 15] (
  .seq (.reg false [⟨none, .mov (.r 14)⟩] [(6, 0)] []) (
  .reg false [⟨none, .mov (.r 15)⟩] [(7, 0)] [])) (
  .block 1 (
  .seq (.reg false [⟨none, .ld false 1 (.r 5)⟩,
    ⟨none, .bin .add (.l 0) (.v (.c (.d (.int .i64 1))))⟩,
    ⟨none, .st 1 (.r 5) (.l 0)⟩] [] []) (
  .seq (.reg false [⟨none, .mov (.r 7)⟩,
    ⟨none, .un .not (.l 0)⟩,
    ⟨none, .mov (.l 0)⟩,
    ⟨some (0, false), .ld false 1 (.r 4)⟩,
    ⟨some (1, false), .mov (.r 6)⟩,
    ⟨some (2, false), .hc (.v (.c (.d (.fn 64 [] [])))) [(.l 1), (.l 0)]⟩,
    ⟨some (3, false), .un .not (.l 0)⟩,
    ⟨none, .pick (.l 4) (.v (.c (.d (.bool true)))) (.l 0)⟩] [(16, 0)] []) (
  .cond (.r 16) (
  .seq (.reg true [⟨none, .ld false 1 (.r 5)⟩,
    ⟨none, .st 1 (.r 1) (.v (.c (.d (.nils))))⟩,
    ⟨none, .st 1 (.r 2) (.l 1)⟩,
    ⟨none, .st 1 (.r 3) (.v (.c (.d (.int .i64 6))))⟩] [] [((.r 5), (.r 1))]) (
  .ret)) (
  .skip)))))))) (
  .seq (.seq (.reg false [⟨none, .ld false 1 (.r 4)⟩,
    ⟨none, .nlc (.l 0)⟩,
    ⟨none, .fa 0 (.l 0)⟩,
    ⟨none, .ld false 1 (.l 0)⟩,
    ⟨none, .vc 15 [(.l 0)]⟩,
    ⟨none, .mov (.l 0)⟩] [(8, 0)] []) (
  .seq (.reg false [⟨none, .mov (.r 8)⟩,
    ⟨none, .bin .neq (.l 0) (.v (.c (.d (.int .i64 0))))⟩] [(17, 0)] []) (
  .cond (.r 17) (
  .seq (.reg false [⟨none, .mov (.r 8)⟩,
    ⟨none, .st 1 (.r 1) (.v (.c (.d (.nils))))⟩,
    ⟨none, .st 1 (.r 2) (.v (.c (.d (.int .i64 0))))⟩,
    ⟨none, .st 1 (.r 3) (.l 2)⟩] [] []) (
  .ret)) (
  .skip)))) (
  .seq (.seq (.reg false [⟨none, .ld false 1 (.r 4)⟩,
    ⟨none, .nlc (.l 0)⟩,
    ⟨none, .fa 0 (.l 0)⟩,
    ⟨none, .ld false 1 (.l 0)⟩,
    ⟨none, .len (.l 0)⟩,
    ⟨none, .mov (.v (.c (.d (.int .i64 0))))⟩] [(18, 2), (19, 1), (20, 0)] []) (
  .block 2 (
  .loop (some [1, 2, 3, 4, 18, 19, 20]) fn32L1))) (
  .seq (.reg false [⟨none, .ld false 1 (.r 4)⟩,
    ⟨none, .nlc (.l 0)⟩,
    ⟨none, .fa 0 (.l 0)⟩,
    ⟨none, .ld false 1 (.l 0)⟩,
    ⟨none, .vc 67 [(.l 0)]⟩,
    ⟨none, .st 1 (.r 1) (.l 0)⟩,
    ⟨none, .st 1 (.r 2) (.v (.c (.d (.int .i64 0))))⟩,
    ⟨none, .st 1 (.r 3) (.v (.c (.d (.int .i64 0))))⟩] [] []) (
  .ret))))))))⟩
def fn41 : Fn := ⟨0, 1, [0], [.cell 0 17 true],
  .seq (.reg false [⟨none, .new [.int .u8 0, .int .u32 0, .int .u32 0, .int .u32 0, .int .u32 0, .int .u32 0, .int .u32 0, .int .u32 0, .int .u32 0, .int .u32 0, .int .u32 0, .int .u32 0, .int .u32 0, .int .u32 0, .int .u32 0, .int .u32 0, .int .u32 0]⟩] [(0, 0)] []) (
  .seq (.reg false [⟨none, .vc 23 [(.v (.c (.d (.int .u8 0))))]⟩,
    ⟨none, .st 17 (.r 0) (.l 0)⟩] [] []) (
  .ret))⟩
def fn42 : Fn := ⟨0, 1, [0], [.cell 0 17 true],
  .seq (.reg false [⟨none, .new [.int .u8 0, .int .u32 0, .int .u32 0, .int .u32 0, .int .u32 0, .int .u32 0, .int .u32 0, .int .u32 0, .int .u32 0, .int .u32 0, .int .u32 0, .int .u32 0, .int .u32 0, .int .u32 0, .int .u32 0, .int .u32 0, .int .u32 0]⟩] [(0, 0)] []) (
  .seq (.reg false [⟨none, .vc 23 [(.v (.c (.d (.int .u8 1))))]⟩,
    ⟨none, .st 17 (.r 0) (.l 0)⟩] [] []) (
  .ret))⟩
def fn46 : Fn := ⟨2, 7, [0, 1, 2, 3, 4, 23, 50], [.r 4],
  .seq (.reg false [⟨none, .box (.r 0)⟩,
    ⟨none, .box (.r 1)⟩,
    ⟨none, .mov (.v (.c (.d (.bool false))))⟩] [(2, 2), (3, 1), (4, 0)] []) (
  .seq (.seq (.reg false [⟨none, .fa 0 (.r 2)⟩,
    ⟨none, .ld false 1 (.l 0)⟩,
    ⟨none, .fa 0 (.r 3)⟩,
    ⟨none, .ld false 1 (.l 0)⟩,
    ⟨none, .beq true (.l 2) (.l 0)⟩,
    ⟨none, .mov (.l 0)⟩,
    ⟨some (0, false), .fa 1 (.r 2)⟩,
    ⟨some (1, false), .ld false 1 (.l 0)⟩,
    ⟨some (2, false), .fa 1 (.r 3)⟩,
    ⟨some (3, false), .ld false 1 (.l 0)⟩,
    ⟨some (4, false), .beq true (.l 2) (.l 0)⟩,
    ⟨none, .pick (.l 5) (.v (.c (.d (.bool true)))) (.l 0)⟩,
    ⟨none, .mov (.l 0)⟩,
    ⟨some (0, false), .fa 3 (.r 2)⟩,
    ⟨some (1, false), .ld false 1 (.l 0)⟩,
    ⟨some (2, false), .fa 3 (.r 3)⟩,
    ⟨some (3, false), .ld false 1 (.l 0)⟩,
    ⟨some (4, false), .beq true (.l 2) (.l 0)⟩,
    ⟨none, .pick (.l 5) (.v (.c (.d (.bool true)))) (.l 0)⟩] [(5, 0)] []) (
  .cond (.r 5) (
  .seq (.reg false [⟨none, .mov (.v (.c (.d (.bool false))))⟩] [(4, 0)] []) (
  .ret)) (
  .skip))) (
  .seq (.seq (.reg false [⟨none, .fa 5 (.r 2)⟩,
    ⟨none, .ld false 1 (.l 0)⟩,
    ⟨none, .fa 5 (.r 3)⟩,
    ⟨none, .ld false 1 (.l 0)⟩,
    ⟨none, .bin .neq (.l 2) (.l 0)⟩,
    ⟨none, .mov (.l 0)⟩,
    ⟨some (0, false), .fa 6 (.r 2)⟩,
    ⟨some (1, false), .ld false 1 (.l 0)⟩,
    ⟨some (2, false), .fa 6 (.r 3)⟩,
    ⟨some (3, false), .ld false 1 (.l 0)⟩,
    ⟨some (4, false), .bin .neq (.l 2) (.l 0)⟩,
    ⟨none, .pick (.l 5) (.v (.c (.d (.bool true)))) (.l 0)⟩,
    ⟨none, .mov (.l 0)⟩,
    ⟨some (0, false), .fa 7 (.r 2)⟩,
    ⟨some (1, false), .ld false 1 (.l 0)⟩,
    ⟨some (2, false), .fa 7 (.r 3)⟩,
    ⟨some (3, false), .ld false 1 (.l 0)⟩,
    ⟨some (4, false), .bin .neq (.l 2) (.l 0)⟩,
    ⟨none, .pick (.l 5) (.v (.c (.d (.bool true)))) (.l 0)⟩,
    ⟨none, .mov (.l 0)⟩,
    ⟨some (0, false), .fa 4 (.r 2)⟩,
    ⟨some (1, false), .ld false 1 (.l 0)⟩,
    ⟨some (2, false), .fa 4 (.r 3)⟩,
    ⟨some (3, false), .ld false 1 (.l 0)⟩,
    ⟨some (4, false), .vc 74 [(.l 2), (.l 0)]⟩,
    ⟨some (5, false), .un .not (.l 0)⟩,
    ⟨none, .pick (.l 6) (.v (.c (.d (.bool true)))) (.l 0)⟩] [(6, 0)] []) (
  .cond (.r 6) (
  .seq (.reg false [⟨none, .mov (.v (.c (.d (.bool false))))⟩] [(4, 0)] []) (
  .ret)) (
  .skip))) (
  .seq (.reg false [⟨none, .fa 2 (.r 2)⟩,
    ⟨none, .ld false 1 (.l 0)⟩,
    ⟨none, .fa 2 (.r 3)⟩,
    ⟨none, .ld false 1 (.l 0)⟩,
    ⟨none, .vc 75 [(.l 2), (.l 0), (.v (.c (.d (.fn 76 [] []))))]⟩,
    ⟨none, .mov (.l 0)⟩] [(4, 0)] []) (
  .ret))))⟩
def fn47L0 : I := .seq (.seq (.reg false [⟨none, .mov (.r 6)⟩,
    ⟨none, .fa 4 (.r 2)⟩,
    ⟨none, .ld false 1 (.l 0)⟩,
    ⟨none, .len (.l 0)⟩,
    ⟨none, .bin .lss (.l 3) (.l 0)⟩] [(10, 0)] []) (
  .cond (.r 10) (
  .skip) (
  .exit 2))) (
  .seq (.block 3 (
  .seq (.reg true [⟨none, .fa 4 (.r 2)⟩,
    ⟨none, .ld false 1 (.l 0)⟩,
    ⟨none, .mov (.r 6)⟩,
    ⟨none, .ixa 34 (.l 1) (.l 0)⟩,
    ⟨none, .ld true 34 (.l 0)⟩,
    ⟨none, .fa 4 (.r 3)⟩,
    ⟨none, .ld false 1 (.l 0)⟩,
    ⟨none, .mov (.r 6)⟩,
    ⟨none, .ixa 34 (.l 1) (.l 0)⟩,
    ⟨none, .ld true 34 (.l 0)⟩,
    ⟨none, .eqa true 34 (.l 5) (.l 0)⟩] [(11, 0)] []) (
  .cond (.r 11) (
  .seq (.reg false [⟨none, .mov (.v (.c (.d (.int .i64 0))))⟩] [(4, 0)] []) (
  .ret)) (
  .skip)))) (
  .reg false [⟨none, .mov (.r 6)⟩,
    ⟨none, .bin .add (.l 0) (.v (.c (.d (.int .i64 1))))⟩,
    ⟨none, .mov (.l 0)⟩] [(6, 0)] []))
def fn47L1 : I := .seq (.seq (.reg false [⟨none, .mov (.r 5)⟩,
    ⟨none, .fa 2 (.r 2)⟩,
    ⟨none, .ld false 1 (.l 0)⟩,
    ⟨none, .len (.l 0)⟩,
    ⟨none, .bin .lss (.l 3) (.l 0)⟩] [(8, 0)] []) (
  .cond (.r 8) (
  .skip) (
  .exit 0))) (
  .seq (.block 1 (
  .seq (.reg true [⟨none, .fa 2 (.r 2)⟩,
    ⟨none, .ld false 1 (.l 0)⟩,
    ⟨none, .mov (.r 5)⟩,
    ⟨none, .ixa 18 (.l 1) (.l 0)⟩,
    ⟨none, .fa 0 (.l 0)⟩,
    ⟨none, .ld true 17 (.l 0)⟩,
    ⟨none, .fa 2 (.r 3)⟩,
    ⟨none, .ld false 1 (.l 0)⟩,
    ⟨none, .mov (.r 5)⟩,
    ⟨none, .ixa 18 (.l 1) (.l 0)⟩,
    ⟨none, .fa 0 (.l 0)⟩,
    ⟨none, .ld true 17 (.l 0)⟩,
    ⟨none, .eqa true 17 (.l 6) (.l 0)⟩,
    ⟨none, .mov (.l 0)⟩,
    ⟨some (0, false), .fa 2 (.r 2)⟩,
    ⟨some (1, false), .ld false 1 (.l 0)⟩,
    ⟨some (2, false), .mov (.r 5)⟩,
    ⟨some (3, false), .ixa 18 (.l 1) (.l 0)⟩,
    ⟨some (4, false), .fa 17 (.l 0)⟩,
    ⟨some (5, false), .ld false 1 (.l 0)⟩,
    ⟨some (6, false), .fa 2 (.r 3)⟩,
    ⟨some (7, false), .ld false 1 (.l 0)⟩,
    ⟨some (8, false), .mov (.r 5)⟩,
    ⟨some (9, false), .ixa 18 (.l 1) (.l 0)⟩,
    ⟨some (10, false), .fa 17 (.l 0)⟩,
    ⟨some (11, false), .ld false 1 (.l 0)⟩,
    ⟨some (12, false), .vc 26 [(.l 6), (.l 0)]⟩,
    ⟨some (13, false), .un .not (.l 0)⟩,
    ⟨none, .pick (.l 14) (.v (.c (.d (.bool true)))) (.l 0)⟩] [(9, 0)] []) (
  .cond (.r 9) (
  .seq (.reg false [⟨none, .mov (.v (.c (.d (.int .i64 0))))⟩] [(4, 0)] []) (
  .ret)) (
  .skip)))) (
  .reg false [⟨none, .mov (.r 5)⟩,
    ⟨none, .bin .add (.l 0) (.v (.c (.d (.int .i64 1))))⟩,
    ⟨none, .mov (.l 0)⟩] [(5, 0)] []))
def fn47 : Fn := ⟨2, 12, [0, 1, 2, 3, 4, 5, 6, 64, 69, 100, 105, 118], [.r 4],
  .seq (.reg false [⟨none, .box (.r 0)⟩,
    ⟨none, .box (.r 1)⟩,
    ⟨none, .mov (.v (.c (.d (.int .i64 0))))⟩] [(2, 2), (3, 1), (4, 0)] []) (
  .seq (.seq (.reg false [⟨none, .fa 0 (.r 2)⟩,
    ⟨none, .ld false 1 (.l 0)⟩,
    ⟨none, .fa 0 (.r 3)⟩,
    ⟨none, .ld false 1 (.l 0)⟩,
    ⟨none, .beq true (.l 2) (.l 0)⟩,
    ⟨none, .mov (.l 0)⟩,
    ⟨some (0, false), .fa 1 (.r 2)⟩,
    ⟨some (1, false), .ld false 1 (.l 0)⟩,
    ⟨some (2, false), .fa 1 (.r 3)⟩,
    ⟨some (3, false), .ld false 1 (.l 0)⟩,
    ⟨some (4, false), .beq true (.l 2) (.l 0)⟩,
    ⟨none, .pick (.l 5) (.v (.c (.d (.bool true)))) (.l 0)⟩,
    ⟨none, .mov (.l 0)⟩,
    ⟨some (0, false), .fa 3 (.r 2)⟩,
    ⟨some (1, false), .ld false 1 (.l 0)⟩,
    ⟨some (2, false), .fa 3 (.r 3)⟩,
    ⟨some (3, false), .ld false 1 (.l 0)⟩,
    ⟨some (4, false), .beq true (.l 2) (.l 0)⟩,
    ⟨none, .pick (.l 5) (.v (.c (.d (.bool true)))) (.l 0)⟩,
    ⟨none, .mov (.l 0)⟩,
    ⟨some (0, false), .fa 5 (.r 2)⟩,
    ⟨some (1, false), .ld false 1 (.l 0)⟩,
    ⟨some (2, false), .fa 5 (.r 3)⟩,
    ⟨some (3, false), .ld false 1 (.l 0)⟩,
    ⟨some (4, false), .bin .neq (.l 2) (.l 0)⟩,
    ⟨none, .pick (.l 5) (.v (.c (.d (.bool true)))) (.l 0)⟩,
    ⟨none, .mov (.l 0)⟩,
    ⟨some (0, false), .fa 6 (.r 2)⟩,
    ⟨some (1, false), .ld false 1 (.l 0)⟩,
    ⟨some (2, false), .fa 6 (.r 3)⟩,
    ⟨some (3, false), .ld false 1 (.l 0)⟩,
    ⟨some (4, false), .bin .neq (.l 2) (.l 0)⟩,
    ⟨none, .pick (.l 5) (.v (.c (.d (.bool true)))) (.l 0)⟩,
    ⟨none, .mov (.l 0)⟩,
    ⟨some (0, false), .fa 7 (.r 2)⟩,
    ⟨some (1, false), .ld false 1 (.l 0)⟩,
    ⟨some (2, false), .fa 7 (.r 3)⟩,
    ⟨some (3, false), .ld false 1 (.l 0)⟩,
    ⟨some (4, false), .bin .neq (.l 2) (.l 0)⟩,
    ⟨none, .pick (.l 5) (.v (.c (.d (.bool true)))) (.l 0)⟩,
    ⟨none, .mov (.l 0)⟩,
    ⟨some (0, false), .fa 2 (.r 2)⟩,
    ⟨some (1, false), .ld false 1 (.l 0)⟩,
    ⟨some (2, false), .len (.l 0)⟩,
    ⟨some (3, false), .fa 2 (.r 3)⟩,
    ⟨some (4, false), .ld false 1 (.l 0)⟩,
    ⟨some (5, false), .len (.l 0)⟩,
    ⟨some (6, false), .bin .neq (.l 3) (.l 0)⟩,
    ⟨none, .pick (.l 7) (.v (.c (.d (.bool true)))) (.l 0)⟩,
    ⟨none, .mov (.l 0)⟩,
    ⟨some (0, false), .fa 4 (.r 2)⟩,
    ⟨some (1, false), .ld false 1 (.l 0)⟩,
    ⟨some (2, false), .len (.l 0)⟩,
    ⟨some (3, false), .fa 4 (.r 3)⟩,
    ⟨some (4, false), .ld false 1 (.l 0)⟩,
    ⟨some (5, false), .len (.l 0)⟩,
    ⟨some (6, false), .bin .neq (.l 3) (.l 0)⟩,
    ⟨none, .pick (.l 7) (.v (.c (.d (.bool true)))) (.l 0)⟩] [(7, 0)] []) (
  .cond (.r 7) (
  .seq (.reg false [⟨none, .mov (.v (.c (.d (.int .i64 0))))⟩] [(4, 0)] []) (
  .ret)) (
  .skip))) (
  .seq (.seq (.reg false [⟨none, .mov (.v (.c (.d (.int .i64 0))))⟩] [(5, 0)] []) (
  .block 0 (
  .loop (some [2, 3, 5]) fn47L1))) (
  .seq (.seq (.reg false [⟨none, .mov (.v (.c (.d (.int .i64 0))))⟩] [(6, 0)] []) (
  .block 2 (
  .loop (some [2, 3, 6]) fn47L0))) (
  .seq (.reg false [⟨none, .mov (.v (.c (.d (.int .i64 1))))⟩] [(4, 0)] []) (
  .ret)))))⟩
def fn48 : Fn := ⟨0, 1, [0], [.r 0],
  .seq (.reg false [⟨none, .mov (.v (.c (.d (.nils))))⟩] [(0, 0)] []) (
  .seq (.reg false [⟨none, .vc 41 []⟩,
    ⟨none, .bld [.int .u8 0, .int .u32 0, .int .u32 0, .int .u32 0, .int .u32 0, .int .u32 0, .int .u32 0, .int .u32 0, .int .u32 0, .int .u32 0, .int .u32 0, .int .u32 0, .int .u32 0, .int .u32 0, .int .u32 0, .int .u32 0, .int .u32 0, .nils] [(0, 17, (.l 0))]⟩,
    ⟨none, .vc 25 []⟩,
    ⟨none, .bld [.int .u8 0, .int .u32 0, .int .u32 0, .int .u32 0, .int .u32 0, .int .u32 0, .int .u32 0, .int .u32 0, .int .u32 0, .int .u32 0, .int .u32 0, .int .u32 0, .int .u32 0, .int .u32 0, .int .u32 0, .int .u32 0, .int .u32 0, .nils] [(0, 17, (.l 0))]⟩,
    ⟨none, .bsl 2 18 [.int .u8 0, .int .u32 0, .int .u32 0, .int .u32 0, .int .u32 0, .int .u32 0, .int .u32 0, .int .u32 0, .int .u32 0, .int .u32 0, .int .u32 0, .int .u32 0, .int .u32 0, .int .u32 0, .int .u32 0, .int .u32 0, .int .u32 0, .nils] [(0, 18, (.l 2)), (18, 18, (.l 0))]⟩,
    ⟨none, .vc 41 []⟩,
    ⟨none, .vc 42 []⟩,
    ⟨none, .bld [.int .u8 0, .int .u32 0, .int .u32 0, .int .u32 0, .int .u32 0, .int .u32 0, .int .u32 0, .int .u32 0, .int .u32 0, .int .u32 0, .int .u32 0, .int .u32 0, .int .u32 0, .int .u32 0, .int .u32 0, .int .u32 0, .int .u32 0, .int .u8 0, .int .u32 0, .int .u32 0, .int .u32 0, .int .u32 0, .int .u32 0, .int .u32 0, .int .u32 0, .int .u32 0, .int .u32 0, .int .u32 0, .int .u32 0, .int .u32 0, .int .u32 0, .int .u32 0, .int .u32 0, .int .u32 0] [(0, 17, (.l 1)), (17, 17, (.l 0))]⟩,
    ⟨none, .bsl 1 34 [.int .u8 0, .int .u32 0, .int .u32 0, .int .u32 0, .int .u32 0, .int .u32 0, .int .u32 0, .int .u32 0, .int .u32 0, .int .u32 0, .int .u32 0, .int .u32 0, .int .u32 0, .int .u32 0, .int .u32 0, .int .u32 0, .int .u32 0, .int .u8 0, .int .u32 0, .int .u32 0, .int .u32 0, .int .u32 0, .int .u32 0, .int .u32 0, .int .u32 0, .int .u32 0, .int .u32 0, .int .u32 0, .int .u32 0, .int .u32 0, .int .u32 0, .int .u32 0, .int .u32 0, .int .u32 0] [(0, 34, (.l 0))]⟩,
    ⟨none, .bld [.bool false, .bool false, .nils, .bool false, .nils, .int .i64 0, .int .i64 0, .int .i64 0] [(1, 1, (.v (.c (.d (.bool true))))), (2, 1, (.l 4)), (3, 1, (.v (.c (.d (.bool true))))), (4, 1, (.l 0)), (5, 1, (.v (.c (.d (.int .i64 (-1)))))), (6, 1, (.v (.c (.d (.int .i64 (-1)))))), (7, 1, (.v (.c (.d (.int .i64 (-1))))))]⟩,
    ⟨none, .vc 42 []⟩,
    ⟨none, .bld [.int .u8 0, .int .u32 0, .int .u32 0, .int .u32 0, .int .u32 0, .int .u32 0, .int .u32 0, .int .u32 0, .int .u32 0, .int .u32 0, .int .u32 0, .int .u32 0, .int .u32 0, .int .u32 0, .int .u32 0, .int .u32 0, .int .u32 0, .nils] [(0, 17, (.l 0))]⟩,
    ⟨none, .bsl 1 18 [.int .u8 0, .int .u32 0, .int .u32 0, .int .u32 0, .int .u32 0, .int .u32 0, .int .u32 0, .int .u32 0, .int .u32 0, .int .u32 0, .int .u32 0, .int .u32 0, .int .u32 0, .int .u32 0, .int .u32 0, .int .u32 0, .int .u32 0, .nils] [(0, 18, (.l 0))]⟩,
    ⟨none, .bld [.bool false, .bool false, .nils, .bool false, .nils, .int .i64 0, .int .i64 0, .int .i64 0] [(1, 1, (.v (.c (.d (.bool true))))), (2, 1, (.l 0)), (5, 1, (.v (.c (.d (.int .i64 (-1)))))), (6, 1, (.v (.c (.d (.int .i64 (-1)))))), (7, 1, (.v (.c (.d (.int .i64 (-1))))))]⟩,
    ⟨none, .bsl 2 8 [.bool false, .bool false, .nils, .bool false, .nils, .int .i64 0, .int .i64 0, .int .i64 0] [(0, 8, (.l 4)), (8, 8, (.l 0))]⟩,
    ⟨none, .mov (.l 0)⟩] [(0, 0)] []) (
  .ret))⟩
def fn50 : Fn := ⟨1, 8, [0, 1, 2, 3, 23, 33, 48, 66], [.r 2],
  .seq (.reg false [⟨none, .box (.r 0)⟩,
    ⟨none, .mov (.v (.c (.d (.int .i64 0))))⟩] [(1, 1), (2, 0)] []) (
  .seq (.seq (.reg false [⟨none, .fa 1 (.r 1)⟩,
    ⟨none, .ld false 1 (.l 0)⟩,
    ⟨none, .un .not (.l 0)⟩,
    ⟨none, .mov (.l 0)⟩,
    ⟨some (0, true), .fa 2 (.r 1)⟩,
    ⟨some (1, true), .ld false 1 (.l 0)⟩,
    ⟨some (2, true), .len (.l 0)⟩,
    ⟨some (3, true), .bin .gtr (.l 0) (.v (.c (.d (.int .i64 0))))⟩,
    ⟨none, .pick (.l 4) (.l 0) (.v (.c (.d (.bool false))))⟩,
    ⟨none, .mov (.l 0)⟩,
    ⟨some (0, false), .fa 3 (.r 1)⟩,
    ⟨some (1, false), .ld false 1 (.l 0)⟩,
    ⟨some (2, false), .un .not (.l 0)⟩,
    ⟨some (3, false), .mov (.l 0)⟩,
    ⟨some (0, true), .fa 4 (.r 1)⟩,
    ⟨some (1, true), .ld false 1 (.l 0)⟩,
    ⟨some (2, true), .len (.l 0)⟩,
    ⟨some (3, true), .bin .gtr (.l 0) (.v (.c (.d (.int .i64 0))))⟩,
    ⟨some (8, false), .pick (.l 4) (.l 0) (.v (.c (.d (.bool false))))⟩,
    ⟨none, .pick (.l 9) (.v (.c (.d (.bool true)))) (.l 0)⟩] [(4, 0)] []) (
  .cond (.r 4) (
  .seq (.reg false [⟨none, .mov (.v (.c (.d (.int .i64 1))))⟩] [(2, 0)] []) (
  .ret)) (
  .skip))) (
  .seq (.reg false [⟨none, .fa 5 (.r 1)⟩,
    ⟨none, .ld false 1 (.l 0)⟩,
    ⟨none, .fa 6 (.r 1)⟩,
    ⟨none, .ld false 1 (.l 0)⟩,
    ⟨none, .fa 7 (.r 1)⟩,
    ⟨none, .ld false 1 (.l 0)⟩,
    ⟨none, .bld [.int .i64 0, .int .i64 0, .int .i64 0] [(0, 1, (.l 4)), (1, 1, (.l 2)), (2, 1, (.l 0))]⟩,
    ⟨none, .pre⟩,
    ⟨none, .ini 3 (.l 1)⟩] [(3, 0)] []) (
  .seq (.seq (.reg false [⟨none, .slp 3 1 (.r 3) none none none⟩,
    ⟨none, .vc 79 [(.l 0)]⟩,
    ⟨none, .bin .lss (.l 0) (.v (.c (.d (.int .i64 (-1)))))⟩] [(5, 0)] []) (
  .cond (.r 5) (
  .seq (.reg false [⟨none, .mov (.v (.c (.d (.int .i64 1))))⟩] [(2, 0)] []) (
  .ret)) (
  .skip))) (
  .seq (.seq (.reg false [⟨none, .slp 3 1 (.r 3) none none none⟩,
    ⟨none, .vc 80 [(.l 0)]⟩,
    ⟨none, .bin .gtr (.l 0) (.v (.c (.d (.int .i64 2147483647))))⟩,
    ⟨none, .mov (.l 0)⟩,
    ⟨some (0, false), .fa 2 (.r 1)⟩,
    ⟨some (1, false), .ld false 1 (.l 0)⟩,
    ⟨some (2, false), .len (.l 0)⟩,
    ⟨some (3, false), .bin .gtr (.l 0) (.v (.c (.d (.int .i64 64))))⟩,
    ⟨none, .pick (.l 4) (.v (.c (.d (.bool true)))) (.l 0)⟩,
    ⟨none, .mov (.l 0)⟩,
    ⟨some (0, false), .fa 4 (.r 1)⟩,
    ⟨some (1, false), .ld false 1 (.l 0)⟩,
    ⟨some (2, false), .len (.l 0)⟩,
    ⟨some (3, false), .bin .gtr (.l 0) (.v (.c (.d (.int .i64 64))))⟩,
    ⟨none, .pick (.l 4) (.v (.c (.d (.bool true)))) (.l 0)⟩] [(6, 0)] []) (
  .cond (.r 6) (
  .seq (.reg false [⟨none, .mov (.v (.c (.d (.int .i64 3))))⟩] [(2, 0)] []) (
  .ret)) (
  .skip))) (
  .seq (.seq (.reg false [⟨none, .fa 1 (.r 1)⟩,
    ⟨none, .ld false 1 (.l 0)⟩,
    ⟨none, .mov (.l 0)⟩,
    ⟨some (0, true), .fa 2 (.r 1)⟩,
    ⟨some (1, true), .ld false 1 (.l 0)⟩,
    ⟨some (2, true), .len (.l 0)⟩,
    ⟨some (3, true), .bin .eql (.l 0) (.v (.c (.d (.int .i64 0))))⟩,
    ⟨none, .pick (.l 4) (.l 0) (.v (.c (.d (.bool false))))⟩,
    ⟨none, .mov (.l 0)⟩,
    ⟨some (0, false), .fa 3 (.r 1)⟩,
    ⟨some (1, false), .ld false 1 (.l 0)⟩,
    ⟨some (2, false), .mov (.l 0)⟩,
    ⟨some (0, true), .fa 4 (.r 1)⟩,
    ⟨some (1, true), .ld false 1 (.l 0)⟩,
    ⟨some (2, true), .len (.l 0)⟩,
    ⟨some (3, true), .bin .eql (.l 0) (.v (.c (.d (.int .i64 0))))⟩,
    ⟨some (7, false), .pick (.l 4) (.l 0) (.v (.c (.d (.bool false))))⟩,
    ⟨none, .pick (.l 8) (.v (.c (.d (.bool true)))) (.l 0)⟩] [(7, 0)] []) (
  .cond (.r 7) (
  .seq (.reg false [⟨none, .mov (.v (.c (.d (.int .i64 17))))⟩] [(2, 0)] []) (
  .ret)) (
  .skip))) (
  .seq (.reg false [⟨none, .mov (.v (.c (.d (.int .i64 0))))⟩] [(2, 0)] []) (
  .ret)))))))⟩
def fn51L0 : I := .seq (.reg false [⟨none, .bin .lss (.r 17) (.r 16)⟩] [(18, 0)] []) (
  .seq (.cond (.r 18) (
  .skip) (
  .exit 2)) (
  .seq (.block 3 (
  .seq (.reg false [⟨none, .ixa 27 (.r 15) (.r 17)⟩,
    ⟨none, .ld true 27 (.l 0)⟩,
    ⟨none, .pre⟩,
    ⟨none, .ini 27 (.l 1)⟩] [(6, 0)] []) (
  .seq (.reg false [⟨none, .ld true 27 (.r 6)⟩,
    ⟨none, .vc 81 [(.l 0)]⟩,
    ⟨none, .mov (.l 0)⟩] [(7, 0)] []) (
  .seq (.reg false [⟨none, .mov (.r 7)⟩,
    ⟨none, .bin .neq (.l 0) (.v (.c (.d (.int .i64 0))))⟩] [(19, 0)] []) (
  .cond (.r 19) (
  .seq (.reg false [⟨none, .mov (.r 7)⟩,
    ⟨none, .mov (.l 0)⟩] [(2, 0)] []) (
  .ret)) (
  .skip)))))) (
  .reg false [⟨none, .bin .add (.r 17) (.v (.c (.d (.int .i64 1))))⟩,
    ⟨none, .mov (.l 0)⟩] [(17, 0)] [])))
def fn51L1 : I := .seq (.reg false [⟨none, .bin .lss (.r 11) (.r 10)⟩] [(12, 0)] []) (
  .seq (.cond (.r 12) (
  .skip) (
  .exit 0)) (
  .seq (.block 1 (
  .seq (.reg false [⟨none, .ixa 18 (.r 9) (.r 11)⟩,
    ⟨none, .ld true 18 (.l 0)⟩,
    ⟨none, .pre⟩,
    ⟨none, .ini 18 (.l 1)⟩] [(5, 0)] []) (
  .seq (.reg false [⟨none, .fa 0 (.r 5)⟩,
    ⟨none, .ld true 17 (.l 0)⟩,
    ⟨none, .fa 0 (.r 3)⟩,
    ⟨none, .ld true 17 (.l 0)⟩,
    ⟨none, .eqa false 17 (.l 2) (.l 0)⟩] [(13, 0)] []) (
  .cond (.r 13) (
  .seq (.reg false [⟨none, .mov (.v (.c (.d (.int .i64 14))))⟩] [(2, 0)] []) (
  .ret)) (
  .skip))))) (
  .reg false [⟨none, .bin .add (.r 11) (.v (.c (.d (.int .i64 1))))⟩,
    ⟨none, .mov (.l 0)⟩] [(11, 0)] [])))
def fn51 : Fn := ⟨2, 20, [0, 1, 4, 5, 6, 8, 10, 11, 20, 24, 25, 26, 27, 34, 39, 41, 42, 43, 44, 50], [.r 2],
  .seq (.reg false [⟨none, .mov (.v (.c (.d (.int .i64 0))))⟩] [(2, 0)] []) (
  .seq (.reg false [⟨none, .mov (.r 0)⟩,
    ⟨none, .mov (.r 1)⟩,
    ⟨none, .ixa 18 (.l 1) (.l 0)⟩,
    ⟨none, .ld true 18 (.l 0)⟩,
    ⟨none, .pre⟩,
    ⟨none, .ini 18 (.l 1)⟩] [(3, 0)] []) (
  .seq (.seq (.reg false [⟨none, .fa 0 (.r 3)⟩,
    ⟨none, .ld true 17 (.l 0)⟩,
    ⟨none, .vc 52 [(.l 0)]⟩,
    ⟨none, .mov (.l 0)⟩] [(4, 0)] []) (
  .seq (.reg false [⟨none, .mov (.r 4)⟩,
    ⟨none, .bin .neq (.l 0) (.v (.c (.d (.int .i64 0))))⟩] [(8, 0)] []) (
  .cond (.r 8) (
  .seq (.reg false [⟨none, .mov (.r 4)⟩,
    ⟨none, .mov (.l 0)⟩] [(2, 0)] []) (
  .ret)) (
  .skip)))) (
  .seq (.seq (.reg false [⟨none, .mov (.r 0)⟩,
    ⟨none, .mov (.r 1)⟩,
    ⟨none, .slc 18 (.l 1) none (some (.l 0)) none⟩,
    ⟨none, .len (.l 0)⟩,
    ⟨none, .mov (.v (.c (.d (.int .i64 0))))⟩] [(9, 2), (10, 1), (11, 0)] []) (
  .block 0 (
  .loop (some [3, 9, 10, 11]) fn51L1))) (
  .seq (.seq (.reg false [⟨none, .fa 17 (.r 3)⟩,
    ⟨none, .ld false 1 (.l 0)⟩,
    ⟨none, .len (.l 0)⟩,
    ⟨none, .bin .gtr (.l 0) (.v (.c (.d (.int .i64 8))))⟩] [(14, 0)] []) (
  .cond (.r 14) (
  .seq (.reg false [⟨none, .mov (.v (.c (.d (.int .i64 3))))⟩] [(2, 0)] []) (
  .ret)) (
  .skip))) (
  .seq (.seq (.reg false [⟨none, .fa 17 (.r 3)⟩,
    ⟨none, .ld false 1 (.l 0)⟩,
    ⟨none, .len (.l 0)⟩,
    ⟨none, .mov (.v (.c (.d (.int .i64 0))))⟩] [(15, 2), (16, 1), (17, 0)] []) (
  .block 2 (
  .loop (some [15, 16, 17]) fn51L0))) (
  .seq (.reg false [⟨none, .mov (.v (.c (.d (.int .i64 0))))⟩] [(2, 0)] []) (
  .ret)))))))⟩
def fn52L0 : I := .seq (.reg false [⟨none, .bin .lss (.r 8) (.r 7)⟩] [(9, 0)] []) (
  .seq (.cond (.r 9) (
  .skip) (
  .exit 0)) (
  .seq (.block 1 (
  .seq (.reg false [⟨none, .ixa 1 (.r 6) (.r 8)⟩,
    ⟨none, .ld false 1 (.l 0)⟩,
    ⟨none, .mov (.l 0)⟩] [(3, 0)] []) (
  .seq (.reg false [⟨none, .mov (.r 3)⟩,
    ⟨none, .bin .neq (.l 0) (.v (.c (.d (.int .u32 0))))⟩] [(10, 0)] []) (
  .cond (.r 10) (
  .seq (.reg false [⟨none, .mov (.v (.c (.d (.int .i64 1))))⟩] [(2, 0)] []) (
  .ret)) (
  .skip))))) (
  .reg false [⟨none, .bin .add (.r 8) (.v (.c (.d (.int .i64 1))))⟩,
    ⟨none, .mov (.l 0)⟩] [(8, 0)] [])))
def fn52 : Fn := ⟨1, 11, [0, 1, 2, 4, 18, 34, 38, 39, 40, 41, 45], [.r 2],
  .seq (.reg false [⟨none, .box (.r 0)⟩,
    ⟨none, .mov (.v (.c (.d (.int .i64 0))))⟩] [(1, 1), (2, 0)] []) (
  .seq (.seq (.reg false [⟨none, .fa 0 (.r 1)⟩,
    ⟨none, .ld false 1 (.l 0)⟩,
    ⟨none, .bin .lss (.l 0) (.v (.c (.d (.int .u8 2))))⟩,
    ⟨none, .mov (.l 0)⟩,
    ⟨some (0, false), .fa 0 (.r 1)⟩,
    ⟨some (1, false), .ld false 1 (.l 0)⟩,
    ⟨some (2, false), .bin .gtr (.l 0) (.v (.c (.d (.int .u8 16))))⟩,
    ⟨none, .pick (.l 3) (.v (.c (.d (.bool true)))) (.l 0)⟩,
    ⟨none, .mov (.l 0)⟩,
    ⟨some (0, false), .fa 1 (.r 1)⟩,
    ⟨some (1, false), .ixp 16 1 (.l 0) (.v (.c (.d (.int .i64 0))))⟩,
    ⟨some (2, false), .ld false 1 (.l 0)⟩,
    ⟨some (3, false), .bin .gtr (.l 0) (.v (.c (.d (.int .u32 2))))⟩,
    ⟨none, .pick (.l 4) (.v (.c (.d (.bool true)))) (.l 0)⟩] [(4, 0)] []) (
  .cond (.r 4) (
  .seq (.reg false [⟨none, .mov (.v (.c (.d (.int .i64 1))))⟩] [(2, 0)] []) (
  .ret)) (
  .skip))) (
  .seq (.seq (.reg false [⟨none, .fa 1 (.r 1)⟩,
    ⟨none, .ixp 16 1 (.l 0) (.v (.c (.d (.int .i64 0))))⟩,
    ⟨none, .ld false 1 (.l 0)⟩,
    ⟨none, .bin .lss (.l 0) (.v (.c (.d (.int .u32 2))))⟩,
    ⟨none, .mov (.l 0)⟩,
    ⟨some (0, true), .fa 1 (.r 1)⟩,
    ⟨some (1, true), .ixp 16 1 (.l 0) (.v (.c (.d (.int .i64 1))))⟩,
    ⟨some (2, true), .ld false 1 (.l 0)⟩,
    ⟨some (3, true), .bin .gtr (.l 0) (.v (.c (.d (.int .u32 39))))⟩,
    ⟨none, .pick (.l 4) (.l 0) (.v (.c (.d (.bool false))))⟩,
    ⟨none, .mov (.l 0)⟩,
    ⟨some (0, false), .fa 1 (.r 1)⟩,
    ⟨some (1, false), .ixp 16 1 (.l 0) (.v (.c (.d (.int .i64 1))))⟩,
    ⟨some (2, false), .ld false 1 (.l 0)⟩,
    ⟨some (3, false), .bin .gtr (.l 0) (.v (.c (.d (.int .u32 4294967215))))⟩,
    ⟨none, .pick (.l 4) (.v (.c (.d (.bool true)))) (.l 0)⟩] [(5, 0)] []) (
  .cond (.r 5) (
  .seq (.reg false [⟨none, .mov (.v (.c (.d (.int .i64 1))))⟩] [(2, 0)] []) (
  .ret)) (
  .skip))) (
  .seq (.seq (.reg false [⟨none, .fa 1 (.r 1)⟩,
    ⟨none, .fa 0 (.r 1)⟩,
    ⟨none, .ld false 1 (.l 0)⟩,
    ⟨none, .slp 16 1 (.l 2) (some (.l 0)) none none⟩,
    ⟨none, .len (.l 0)⟩,
    ⟨none, .mov (.v (.c (.d (.int .i64 0))))⟩] [(6, 2), (7, 1), (8, 0)] []) (
  .block 0 (
  .loop (some [6, 7, 8]) fn52L0))) (
  .seq (.reg false [⟨none, .mov (.v (.c (.d (.int .i64 0))))⟩] [(2, 0)] []) (
  .ret)))))⟩
def fn53 : Fn := ⟨2, 4, [0, 1, 3, 4], [.r 3],
  .seq (.reg false [⟨none, .box (.r 1)⟩,
    ⟨none, .mov (.v (.c (.d (.bool false))))⟩] [(2, 1), (3, 0)] []) (
  .seq (.reg false [⟨none, .mov (.r 0)⟩,
    ⟨none, .ld true 34 (.r 2)⟩,
    ⟨none, .vc 82 [(.l 1), (.l 0)]⟩,
    ⟨none, .bin .geq (.l 0) (.v (.c (.d (.int .i64 0))))⟩,
    ⟨none, .mov (.l 0)⟩] [(3, 0)] []) (
  .ret))⟩
def fn54 : Fn := ⟨0, 1, [0], [.cell 0 17 true],
  .seq (.reg false [⟨none, .new [.int .u8 0, .int .u32 0, .int .u32 0, .int .u32 0, .int .u32 0, .int .u32 0, .int .u32 0, .int .u32 0, .int .u32 0, .int .u32 0, .int .u32 0, .int .u32 0, .int .u32 0, .int .u32 0, .int .u32 0, .int .u32 0, .int .u32 0]⟩] [(0, 0)] []) (
  .seq (.reg false [⟨none, .bsl 5 1 [.int .u32 0] [(0, 1, (.v (.c (.d (.int .u32 2))))), (1, 1, (.v (.c (.d (.int .u32 5))))), (2, 1, (.v (.c (.d (.int .u32 29))))), (3, 1, (.v (.c (.d (.int .u32 32))))), (4, 1, (.v (.c (.d (.int .u32 0)))))]⟩,
    ⟨none, .vc 83 [(.l 0)]⟩,
    ⟨none, .st 17 (.r 0) (.l 0)⟩] [] []) (
  .ret))⟩
def fn55L0 : I := .seq (.reg false [⟨none, .bin .lss (.r 5) (.r 4)⟩] [(6, 0)] []) (
  .seq (.cond (.r 6) (
  .skip) (
  .exit 0)) (
  .seq (.block 1 (
  .seq (.reg false [⟨none, .mov (.r 5)⟩,
    ⟨none, .mov (.l 0)⟩] [(3, 0)] []) (
  .seq (.reg false [⟨none, .mov (.r 2)⟩,
    ⟨none, .mov (.r 3)⟩,
    ⟨none, .mov (.r 2)⟩,
    ⟨none, .mov (.r 3)⟩,
    ⟨none, .ixa 27 (.l 1) (.l 0)⟩,
    ⟨none, .fa 5 (.l 0)⟩,
    ⟨none, .ld false 1 (.l 0)⟩,
    ⟨none, .hc (.v (.c (.d (.fn 85 [] [])))) [(.l 0)]⟩,
    ⟨none, .ixa 27 (.l 7) (.l 6)⟩,
    ⟨none, .fa 5 (.l 0)⟩,
    ⟨none, .st 1 (.l 0) (.l 2)⟩] [] []) (
  .reg false [⟨none, .mov (.r 2)⟩,
    ⟨none, .mov (.r 3)⟩,
    ⟨none, .mov (.r 2)⟩,
    ⟨none, .mov (.r 3)⟩,
    ⟨none, .ixa 27 (.l 1) (.l 0)⟩,
    ⟨none, .fa 26 (.l 0)⟩,
    ⟨none, .ld false 1 (.l 0)⟩,
    ⟨none, .hc (.v (.c (.d (.fn 86 [] [])))) [(.l 0)]⟩,
    ⟨none, .ixa 27 (.l 7) (.l 6)⟩,
    ⟨none, .fa 26 (.l 0)⟩,
    ⟨none, .st 1 (.l 0) (.l 2)⟩] [] [])))) (
  .reg false [⟨none, .bin .add (.r 5) (.v (.c (.d (.int .i64 1))))⟩,
    ⟨none, .mov (.l 0)⟩] [(5, 0)] [])))
def fn55 : Fn := ⟨1, 7, [0, 2, 3, 4, 8, 9, 10], [.r 1],
  .seq (.reg false [⟨none, .mov (.v (.c (.d (.nils))))⟩] [(1, 0)] []) (
  .seq (.reg false [⟨none, .mov (.r 0)⟩,
    ⟨none, .hc (.v (.c (.d (.fn 84 [] [])))) [(.l 0)]⟩,
    ⟨none, .mov (.l 0)⟩] [(2, 0)] []) (
  .seq (.seq (.reg false [⟨none, .mov (.r 2)⟩,
    ⟨none, .len (.l 0)⟩,
    ⟨none, .mov (.v (.c (.d (.int .i64 0))))⟩] [(4, 1), (5, 0)] []) (
  .block 0 (
  .loop (some [2, 4, 5]) fn55L0))) (
  .seq (.reg false [⟨none, .mov (.r 2)⟩,
    ⟨none, .mov (.l 0)⟩] [(1, 0)] []) (
  .ret))))⟩
def fn56L0 : I := .seq (.reg false [⟨none, .bin .lss (.r 21) (.r 20)⟩] [(22, 0)] []) (
  .seq (.cond (.r 22) (
  .skip) (
  .exit 4)) (
  .seq (.block 5 (
  .seq (.reg false [⟨none, .ixa 34 (.r 19) (.r 21)⟩,
    ⟨none, .ld true 34 (.l 0)⟩,
    ⟨none, .pre⟩,
    ⟨none, .ini 34 (.l 1)⟩] [(7, 0)] []) (
  .reg true [⟨none, .mov (.r 0)⟩,
    ⟨none, .fa 0 (.r 7)⟩,
    ⟨none, .ld true 17 (.l 0)⟩,
    ⟨none, .vc 88 [(.l 0)]⟩,
    ⟨none, .bin .add (.v (.c (.d (.str [109, 97, 112, 32])))) (.l 0)⟩,
    ⟨none, .bin .add (.l 0) (.v (.c (.d (.str [32]))))⟩,
    ⟨none, .fa 17 (.r 7)⟩,
    ⟨none, .ld true 17 (.l 0)⟩,
    ⟨none, .vc 88 [(.l 0)]⟩,
    ⟨none, .bin .add (.l 3) (.l 0)⟩,
    ⟨none, .bin .add (.l 0) (.v (.c (.d (.str [10]))))⟩,
    ⟨none, .hc (.v (.c (.d (.fn 87 [] [])))) [(.l 10), (.l 0)]⟩] [] []))) (
  .reg false [⟨none, .bin .add (.r 21) (.v (.c (.d (.int .i64 1))))⟩,
    ⟨none, .mov (.l 0)⟩] [(21, 0)] [])))
def fn56L1 : I := .seq (.reg false [⟨none, .bin .lss (.r 16) (.r 15)⟩] [(17, 0)] []) (
  .seq (.cond (.r 17) (
  .skip) (
  .exit 2)) (
  .seq (.block 3 (
  .seq (.reg false [⟨none, .ixa 27 (.r 14) (.r 16)⟩,
    ⟨none, .ld true 27 (.l 0)⟩,
    ⟨none, .pre⟩,
    ⟨none, .ini 27 (.l 1)⟩] [(4, 0)] []) (
  .seq (.reg false [⟨none, .ld true 27 (.r 4)⟩,
    ⟨none, .vc 89 [(.l 0)]⟩,
    ⟨none, .mov (.l 0)⟩,
    ⟨none, .ext (.l 0) 0⟩,
    ⟨none, .ext (.l 1) 1⟩,
    ⟨none, .pre⟩,
    ⟨none, .ini 5 (.l 2)⟩,
    ⟨none, .mov (.l 2)⟩] [(5, 1)] []) (
  .seq (.reg false [⟨none, .ld true 5 (.r 5)⟩,
    ⟨none, .vc 90 [(.l 0)]⟩,
    ⟨none, .mov (.l 0)⟩,
    ⟨none, .ext (.l 0) 0⟩,
    ⟨none, .ext (.l 1) 1⟩,
    ⟨none, .mov (.l 1)⟩,
    ⟨none, .mov (.l 1)⟩] [(6, 1)] []) (
  .reg false [⟨none, .mov (.r 0)⟩,
    ⟨none, .mov (.r 6)⟩,
    ⟨none, .vc 91 [(.l 0)]⟩,
    ⟨none, .bin .add (.v (.c (.d (.str [113, 117, 97, 108, 105, 102, 105, 101, 114, 32])))) (.l 0)⟩,
    ⟨none, .bin .add (.l 0) (.v (.c (.d (.str [10]))))⟩,
    ⟨none, .hc (.v (.c (.d (.fn 87 [] [])))) [(.l 4), (.l 0)]⟩] [] []))))) (
  .reg false [⟨none, .bin .add (.r 16) (.v (.c (.d (.int .i64 1))))⟩,
    ⟨none, .mov (.l 0)⟩] [(16, 0)] [])))
def fn56L2 : I := .seq (.reg false [⟨none, .bin .lss (.r 12) (.r 11)⟩] [(13, 0)] []) (
  .seq (.cond (.r 13) (
  .skip) (
  .exit 0)) (
  .seq (.block 1 (
  .seq (.reg false [⟨none, .ixa 18 (.r 10) (.r 12)⟩,
    ⟨none, .ld true 18 (.l 0)⟩,
    ⟨none, .pre⟩,
    ⟨none, .ini 18 (.l 1)⟩] [(3, 0)] []) (
  .seq (.reg false [⟨none, .mov (.r 0)⟩,
    ⟨none, .fa 0 (.r 3)⟩,
    ⟨none, .ld true 17 (.l 0)⟩,
    ⟨none, .vc 88 [(.l 0)]⟩,
    ⟨none, .bin .add (.v (.c (.d (.str [112, 111, 108, 105, 99, 121, 32])))) (.l 0)⟩,
    ⟨none, .bin .add (.l 0) (.v (.c (.d (.str [10]))))⟩,
    ⟨none, .hc (.v (.c (.d (.fn 87 [] [])))) [(.l 5), (.l 0)]⟩] [] []) (
  .seq (.reg false [⟨none, .fa 17 (.r 3)⟩,
    ⟨none, .ld false 1 (.l 0)⟩,
    ⟨none, .len (.l 0)⟩,
    ⟨none, .mov (.v (.c (.d (.int .i64 0))))⟩] [(14, 2), (15, 1), (16, 0)] []) (
  .block 2 (
  .loop (some [0, 2, 10, 11, 12, 14, 15, 16]) fn56L1)))))) (
  .reg false [⟨none, .bin .add (.r 12) (.v (.c (.d (.int .i64 1))))⟩,
    ⟨none, .mov (.l 0)⟩] [(12, 0)] [])))
def fn56 : Fn := ⟨2, 23, [0, 1, 3, 5, 7, 8, 10, 13, 17, 23, 27, 28, 29, 30, 41, 42, 43, 44, 66, 70, 71, 72, 73], [],
  .seq (.reg false [⟨none, .box (.r 1)⟩] [(2, 0)] []) (
  .seq (.reg false [⟨none, .mov (.r 0)⟩,
    ⟨none, .hc (.v (.c (.d (.fn 87 [] [])))) [(.l 0), (.v (.c (.d (.str [99, 101, 114, 116, 105, 102, 105, 99, 97, 116, 101]))))]⟩] [] []) (
  .seq (.seq (.reg false [⟨none, .fa 0 (.r 2)⟩,
    ⟨none, .ld false 1 (.l 0)⟩] [(8, 0)] []) (
  .cond (.r 8) (
  .reg false [⟨none, .mov (.r 0)⟩,
    ⟨none, .hc (.v (.c (.d (.fn 87 [] [])))) [(.l 0), (.v (.c (.d (.str [32, 115, 101, 108, 102, 45, 105, 115, 115, 117, 101, 100]))))]⟩] [] []) (
  .skip))) (
  .seq (.reg false [⟨none, .mov (.r 0)⟩,
    ⟨none, .hc (.v (.c (.d (.fn 87 [] [])))) [(.l 0), (.v (.c (.d (.str [10]))))]⟩] [] []) (
  .seq (.seq (.reg false [⟨none, .fa 1 (.r 2)⟩,
    ⟨none, .ld false 1 (.l 0)⟩] [(9, 0)] []) (
  .cond (.r 9) (
  .reg false [⟨none, .mov (.r 0)⟩,
    ⟨none, .hc (.v (.c (.d (.fn 87 [] [])))) [(.l 0), (.v (.c (.d (.str [112, 111, 108, 105, 99, 105, 101, 115, 10]))))]⟩] [] []) (
  .skip))) (
  .seq (.seq (.reg false [⟨none, .fa 2 (.r 2)⟩,
    ⟨none, .ld false 1 (.l 0)⟩,
    ⟨none, .len (.l 0)⟩,
    ⟨none, .mov (.v (.c (.d (.int .i64 0))))⟩] [(10, 2), (11, 1), (12, 0)] []) (
  .block 0 (
  .loop (some [0, 2, 10, 11, 12]) fn56L2))) (
  .seq (.seq (.reg false [⟨none, .fa 3 (.r 2)⟩,
    ⟨none, .ld false 1 (.l 0)⟩] [(18, 0)] []) (
  .cond (.r 18) (
  .reg false [⟨none, .mov (.r 0)⟩,
    ⟨none, .hc (.v (.c (.d (.fn 87 [] [])))) [(.l 0), (.v (.c (.d (.str [109, 97, 112, 112, 105, 110, 103, 115, 10]))))]⟩] [] []) (
  .skip))) (
  .seq (.seq (.reg false [⟨none, .fa 4 (.r 2)⟩,
    ⟨none, .ld false 1 (.l 0)⟩,
    ⟨none, .len (.l 0)⟩,
    ⟨none, .mov (.v (.c (.d (.int .i64 0))))⟩] [(19, 2), (20, 1), (21, 0)] []) (
  .block 4 (
  .loop (some [0, 2, 19, 20, 21]) fn56L0))) (
  .seq (.reg false [⟨none, .mov (.r 0)⟩,
    ⟨none, .fa 5 (.r 2)⟩,
    ⟨none, .ld false 1 (.l 0)⟩,
    ⟨none, .hc (.v (.c (.d (.fn 92 [] [])))) [(.l 2), (.v (.c (.d (.str [114, 101, 113, 117, 105, 114, 101])))), (.l 0)]⟩] [] []) (
  .seq (.reg false [⟨none, .mov (.r 0)⟩,
    ⟨none, .fa 6 (.r 2)⟩,
    ⟨none, .ld false 1 (.l 0)⟩,
    ⟨none, .hc (.v (.c (.d (.fn 92 [] [])))) [(.l 2), (.v (.c (.d (.str [105, 110, 104, 105, 98, 105, 116])))), (.l 0)]⟩] [] []) (
  .reg false [⟨none, .mov (.r 0)⟩,
    ⟨none, .fa 7 (.r 2)⟩,
    ⟨none, .ld false 1 (.l 0)⟩,
    ⟨none, .hc (.v (.c (.d (.fn 92 [] [])))) [(.l 2), (.v (.c (.d (.str [105, 110, 104, 105, 98, 105, 116, 45, 97, 110, 121])))), (.l 0)]⟩] [] []))))))))))⟩
def fn57 : Fn := ⟨1, 2, [0, 2], [.r 1],
  .seq (.reg false [⟨none, .mov (.v (.c (.d (.int .i64 0))))⟩] [(1, 0)] []) (
  .seq (.reg false [⟨none, .mov (.r 0)⟩,
    ⟨none, .nlc (.l 0)⟩,
    ⟨none, .fa 1 (.l 0)⟩,
    ⟨none, .ld false 1 (.l 0)⟩,
    ⟨none, .len (.l 0)⟩,
    ⟨none, .mov (.l 0)⟩] [(1, 0)] []) (
  .ret))⟩
def fn59 : Fn := ⟨1, 2, [0, 2], [.r 1],
  .seq (.reg false [⟨none, .mov (.v (.c (.d (.nils))))⟩] [(1, 0)] []) (
  .seq (.reg false [⟨none, .mov (.r 0)⟩,
    ⟨none, .hc (.v (.c (.d (.fn 93 [] [])))) [(.l 0), (.v (.c (.d (.fn 94 [] []))))]⟩] [] []) (
  .seq (.reg false [⟨none, .mov (.r 0)⟩,
    ⟨none, .hc (.v (.c (.d (.fn 96 [] [])))) [(.l 0)]⟩,
    ⟨none, .hc (.v (.c (.d (.fn 95 [] [])))) [(.l 0)]⟩,
    ⟨none, .mov (.l 0)⟩] [(1, 0)] []) (
  .ret)))⟩
def fn61L0 : I := .seq (.seq (.reg false [⟨none, .mov (.r 5)⟩,
    ⟨none, .fa 5 (.r 2)⟩,
    ⟨none, .ld false 1 (.l 0)⟩,
    ⟨none, .len (.l 0)⟩,
    ⟨none, .bin .lss (.l 3) (.l 0)⟩] [(7, 0)] []) (
  .cond (.r 7) (
  .skip) (
  .exit 0))) (
  .seq (.block 1 (
  .seq (.reg true [⟨none, .fa 5 (.r 2)⟩,
    ⟨none, .ld false 1 (.l 0)⟩,
    ⟨none, .mov (.r 5)⟩,
    ⟨none, .ixa 1 (.l 1) (.l 0)⟩,
    ⟨none, .ld false 1 (.l 0)⟩,
    ⟨none, .fa 5 (.r 3)⟩,
    ⟨none, .ld false 1 (.l 0)⟩,
    ⟨none, .mov (.r 5)⟩,
    ⟨none, .ixa 1 (.l 1) (.l 0)⟩,
    ⟨none, .ld false 1 (.l 0)⟩,
    ⟨none, .bin .neq (.l 5) (.l 0)⟩] [(8, 0)] []) (
  .cond (.r 8) (
  .seq (.reg false [⟨none, .mov (.v (.c (.d (.bool false))))⟩] [(4, 0)] []) (
  .ret)) (
  .skip)))) (
  .reg false [⟨none, .mov (.r 5)⟩,
    ⟨none, .bin .add (.l 0) (.v (.c (.d (.int .i64 1))))⟩,
    ⟨none, .mov (.l 0)⟩] [(5, 0)] []))
def fn61 : Fn := ⟨2, 9, [0, 1, 2, 3, 4, 5, 70, 75, 88], [.r 4],
  .seq (.reg false [⟨none, .box (.r 0)⟩,
    ⟨none, .box (.r 1)⟩,
    ⟨none, .mov (.v (.c (.d (.bool false))))⟩] [(2, 2), (3, 1), (4, 0)] []) (
  .seq (.seq (.reg false [⟨none, .fa 0 (.r 2)⟩,
    ⟨none, .ld false 1 (.l 0)⟩,
    ⟨none, .fa 0 (.r 3)⟩,
    ⟨none, .ld false 1 (.l 0)⟩,
    ⟨none, .bin .neq (.l 2) (.l 0)⟩,
    ⟨none, .mov (.l 0)⟩,
    ⟨some (0, false), .fa 1 (.r 2)⟩,
    ⟨some (1, false), .ld false 1 (.l 0)⟩,
    ⟨some (2, false), .fa 1 (.r 3)⟩,
    ⟨some (3, false), .ld false 1 (.l 0)⟩,
    ⟨some (4, false), .bin .neq (.l 2) (.l 0)⟩,
    ⟨none, .pick (.l 5) (.v (.c (.d (.bool true)))) (.l 0)⟩,
    ⟨none, .mov (.l 0)⟩,
    ⟨some (0, false), .fa 2 (.r 2)⟩,
    ⟨some (1, false), .ld false 1 (.l 0)⟩,
    ⟨some (2, false), .fa 2 (.r 3)⟩,
    ⟨some (3, false), .ld false 1 (.l 0)⟩,
    ⟨some (4, false), .beq true (.l 2) (.l 0)⟩,
    ⟨none, .pick (.l 5) (.v (.c (.d (.bool true)))) (.l 0)⟩,
    ⟨none, .mov (.l 0)⟩,
    ⟨some (0, false), .fa 3 (.r 2)⟩,
    ⟨some (1, false), .ld true 2 (.l 0)⟩,
    ⟨some (2, false), .fa 3 (.r 3)⟩,
    ⟨some (3, false), .ld true 2 (.l 0)⟩,
    ⟨some (4, false), .eqk true [0, 2] (.l 2) (.l 0)⟩,
    ⟨none, .pick (.l 5) (.v (.c (.d (.bool true)))) (.l 0)⟩,
    ⟨none, .mov (.l 0)⟩,
    ⟨some (0, false), .fa 6 (.r 2)⟩,
    ⟨some (1, false), .ld false 1 (.l 0)⟩,
    ⟨some (2, false), .fa 6 (.r 3)⟩,
    ⟨some (3, false), .ld false 1 (.l 0)⟩,
    ⟨some (4, false), .beq true (.l 2) (.l 0)⟩,
    ⟨none, .pick (.l 5) (.v (.c (.d (.bool true)))) (.l 0)⟩,
    ⟨none, .mov (.l 0)⟩,
    ⟨some (0, false), .fa 7 (.r 2)⟩,
    ⟨some (1, false), .ld true 2 (.l 0)⟩,
    ⟨some (2, false), .fa 7 (.r 3)⟩,
    ⟨some (3, false), .ld true 2 (.l 0)⟩,
    ⟨some (4, false), .eqk true [0, 2] (.l 2) (.l 0)⟩,
    ⟨none, .pick (.l 5) (.v (.c (.d (.bool true)))) (.l 0)⟩,
    ⟨none, .mov (.l 0)⟩,
    ⟨some (0, false), .fa 9 (.r 2)⟩,
    ⟨some (1, false), .ld true 17 (.l 0)⟩,
    ⟨some (2, false), .fa 9 (.r 3)⟩,
    ⟨some (3, false), .ld true 17 (.l 0)⟩,
    ⟨some (4, false), .eqa true 17 (.l 2) (.l 0)⟩,
    ⟨none, .pick (.l 5) (.v (.c (.d (.bool true)))) (.l 0)⟩,
    ⟨none, .mov (.l 0)⟩,
    ⟨some (0, false), .fa 26 (.r 2)⟩,
    ⟨some (1, false), .ld false 1 (.l 0)⟩,
    ⟨some (2, false), .b2s (.l 0)⟩,
    ⟨some (3, false), .fa 26 (.r 3)⟩,
    ⟨some (4, false), .ld false 1 (.l 0)⟩,
    ⟨some (5, false), .b2s (.l 0)⟩,
    ⟨some (6, false), .bin .neq (.l 3) (.l 0)⟩,
    ⟨none, .pick (.l 7) (.v (.c (.d (.bool true)))) (.l 0)⟩,
    ⟨none, .mov (.l 0)⟩,
    ⟨some (0, false), .fa 5 (.r 2)⟩,
    ⟨some (1, false), .ld false 1 (.l 0)⟩,
    ⟨some (2, false), .len (.l 0)⟩,
    ⟨some (3, false), .fa 5 (.r 3)⟩,
    ⟨some (4, false), .ld false 1 (.l 0)⟩,
    ⟨some (5, false), .len (.l 0)⟩,
    ⟨some (6, false), .bin .neq (.l 3) (.l 0)⟩,
    ⟨none, .pick (.l 7) (.v (.c (.d (.bool true)))) (.l 0)⟩] [(6, 0)] []) (
  .cond (.r 6) (
  .seq (.reg false [⟨none, .mov (.v (.c (.d (.bool false))))⟩] [(4, 0)] []) (
  .ret)) (
  .skip))) (
  .seq (.seq (.reg false [⟨none, .mov (.v (.c (.d (.int .i64 0))))⟩] [(5, 0)] []) (
  .block 0 (
  .loop (some [2, 3, 5]) fn61L0))) (
  .seq (.reg false [⟨none, .mov (.v (.c (.d (.bool true))))⟩] [(4, 0)] []) (
  .ret))))⟩
def fn63 : Fn := ⟨1, 3, [0, 1, 2], [.r 2],
  .seq (.reg false [⟨none, .box (.r 0)⟩,
    ⟨none, .mov (.v (.c (.d (.nilf))))⟩] [(1, 1), (2, 0)] []) (
  .seq (.reg false [⟨none, .mkf 98 [] [(.r 1)]⟩,
    ⟨none, .mov (.l 0)⟩] [(2, 0)] []) (
  .ret))⟩
def fn64 : Fn := ⟨2, 7, [0, 1, 4, 5, 6, 7, 13], [.r 2],
  .seq (.reg false [⟨none, .mov (.v (.c (.d (.bool false))))⟩] [(2, 0)] []) (
  .seq (.reg false [⟨none, .mov (.r 1)⟩,
    ⟨none, .pc 100 [(.l 0), (.v (.c (.d (.str [32]))))]⟩,
    ⟨none, .mov (.l 0)⟩] [(3, 0)] []) (
  .seq (.seq (.reg false [⟨none, .mov (.r 3)⟩,
    ⟨none, .ixa 1 (.l 0) (.v (.c (.d (.int .i64 0))))⟩,
    ⟨none, .ld false 1 (.l 0)⟩,
    ⟨none, .bin .eql (.l 0) (.v (.c (.d (.str [99, 101, 114, 116, 105, 102, 105, 99, 97, 116, 101]))))⟩] [(6, 0)] []) (
  .cond (.r 6) (
  .seq (.reg false [⟨none, .mov (.r 0)⟩,
    ⟨none, .mov (.r 3)⟩,
    ⟨none, .slc 1 (.l 0) (some (.v (.c (.d (.int .i64 1))))) none none⟩,
    ⟨none, .hc (.v (.c (.d (.fn 101 [] [])))) [(.l 2), (.l 0)]⟩,
    ⟨none, .mov (.l 0)⟩] [(2, 0)] []) (
  .ret)) (
  .skip))) (
  .seq (.reg false [⟨none, .mkm⟩,
    ⟨none, .mpu false [2] (.l 0) (.v (.c (.d (.str [112, 111, 108, 105, 99, 105, 101, 115])))) (.v (.c (.d (.fn 102 [] []))))⟩,
    ⟨none, .mpu false [2] (.l 1) (.v (.c (.d (.str [112, 111, 108, 105, 99, 121])))) (.v (.c (.d (.fn 103 [] []))))⟩,
    ⟨none, .mpu false [2] (.l 2) (.v (.c (.d (.str [113, 117, 97, 108, 105, 102, 105, 101, 114])))) (.v (.c (.d (.fn 104 [] []))))⟩,
    ⟨none, .mpu false [2] (.l 3) (.v (.c (.d (.str [109, 97, 112, 112, 105, 110, 103, 115])))) (.v (.c (.d (.fn 105 [] []))))⟩,
    ⟨none, .mpu false [2] (.l 4) (.v (.c (.d (.str [109, 97, 112])))) (.v (.c (.d (.fn 106 [] []))))⟩,
    ⟨none, .mpu false [2] (.l 5) (.v (.c (.d (.str [114, 101, 113, 117, 105, 114, 101])))) (.v (.c (.d (.fn 107 [] []))))⟩,
    ⟨none, .mpu false [2] (.l 6) (.v (.c (.d (.str [105, 110, 104, 105, 98, 105, 116])))) (.v (.c (.d (.fn 108 [] []))))⟩,
    ⟨none, .mpu false [2] (.l 7) (.v (.c (.d (.str [105, 110, 104, 105, 98, 105, 116, 45, 97, 110, 121])))) (.v (.c (.d (.fn 109 [] []))))⟩,
    ⟨none, .mov (.l 8)⟩,
    ⟨none, .mov (.l 0)⟩] [(4, 0)] []) (
  .seq (.reg false [⟨none, .mov (.r 4)⟩,
    ⟨none, .mov (.r 3)⟩,
    ⟨none, .ixa 1 (.l 0) (.v (.c (.d (.int .i64 0))))⟩,
    ⟨none, .ld false 1 (.l 0)⟩,
    ⟨none, .lkp false (.c (.d (.nilf))) false [2] (.l 3) (.l 0)⟩,
    ⟨none, .mov (.l 0)⟩] [(5, 0)] []) (
  .seq (.reg false [⟨none, .mov (.r 5)⟩,
    ⟨none, .isz 1 true (.l 0)⟩,
    ⟨none, .mov (.l 0)⟩,
    ⟨some (0, true), .mov (.r 0)⟩,
    ⟨some (1, true), .nlc (.l 0)⟩,
    ⟨some (2, true), .fa 1 (.l 0)⟩,
    ⟨some (3, true), .ld false 1 (.l 0)⟩,
    ⟨some (4, true), .bin .neq (.l 0) (.v (.c (.d (.int .i64 0))))⟩,
    ⟨none, .pick (.l 5) (.l 0) (.v (.c (.d (.bool false))))⟩,
    ⟨none, .mov (.l 0)⟩,
    ⟨some (0, true), .mov (.r 5)⟩,
    ⟨some (1, true), .mov (.r 0)⟩,
    ⟨some (2, true), .mov (.r 3)⟩,
    ⟨some (3, true), .slc 1 (.l 0) (some (.v (.c (.d (.int .i64 1))))) none none⟩,
    ⟨some (4, true), .hc (.l 3) [(.l 2), (.l 0)]⟩,
    ⟨none, .pick (.l 5) (.l 0) (.v (.c (.d (.bool false))))⟩,
    ⟨none, .mov (.l 0)⟩] [(2, 0)] []) (
  .ret))))))⟩
def fn65 : Fn := ⟨1, 4, [0, 2, 3, 6], [.r 1],
  .seq (.reg false [⟨none, .mov (.v (.c (.d (.nils))))⟩] [(1, 0)] []) (
  .seq (.seq (.reg false [⟨none, .mov (.r 0)⟩,
    ⟨none, .len (.l 0)⟩,
    ⟨none, .bin .eql (.l 0) (.v (.c (.d (.int .i64 0))))⟩] [(3, 0)] []) (
  .cond (.r 3) (
  .seq (.reg false [⟨none, .mov (.v (.c (.d (.nils))))⟩] [(1, 0)] []) (
  .ret)) (
  .skip))) (
  .seq (.reg false [⟨none, .mov (.r 0)⟩,
    ⟨none, .len (.l 0)⟩,
    ⟨none, .mks 34 136 [.int .u8 0, .int .u32 0, .int .u32 0, .int .u32 0, .int .u32 0, .int .u32 0, .int .u32 0, .int .u32 0, .int .u32 0, .int .u32 0, .int .u32 0, .int .u32 0, .int .u32 0, .int .u32 0, .int .u32 0, .int .u32 0, .int .u32 0, .int .u8 0, .int .u32 0, .int .u32 0, .int .u32 0, .int .u32 0, .int .u32 0, .int .u32 0, .int .u32 0, .int .u32 0, .int .u32 0, .int .u32 0, .int .u32 0, .int .u32 0, .int .u32 0, .int .u32 0, .int .u32 0, .int .u32 0] (.l 0) (.l 0)⟩,
    ⟨none, .mov (.l 0)⟩] [(2, 0)] []) (
  .seq (.reg false [⟨none, .mov (.r 2)⟩,
    ⟨none, .mov (.r 0)⟩,
    ⟨none, .cpy 34 (.l 1) (.l 0)⟩] [] []) (
  .seq (.reg false [⟨none, .mov (.r 2)⟩,
    ⟨none, .mov (.l 0)⟩] [(1, 0)] []) (
  .ret)))))⟩
def fn66 : Fn := ⟨1, 4, [0, 2, 3, 6], [.r 1],
  .seq (.reg false [⟨none, .mov (.v (.c (.d (.nils))))⟩] [(1, 0)] []) (
  .seq (.seq (.reg false [⟨none, .mov (.r 0)⟩,
    ⟨none, .len (.l 0)⟩,
    ⟨none, .bin .eql (.l 0) (.v (.c (.d (.int .i64 0))))⟩] [(3, 0)] []) (
  .cond (.r 3) (
  .seq (.reg false [⟨none, .mov (.v (.c (.d (.nils))))⟩] [(1, 0)] []) (
  .ret)) (
  .skip))) (
  .seq (.reg false [⟨none, .mov (.r 0)⟩,
    ⟨none, .len (.l 0)⟩,
    ⟨none, .mks 18 96 [.int .u8 0, .int .u32 0, .int .u32 0, .int .u32 0, .int .u32 0, .int .u32 0, .int .u32 0, .int .u32 0, .int .u32 0, .int .u32 0, .int .u32 0, .int .u32 0, .int .u32 0, .int .u32 0, .int .u32 0, .int .u32 0, .int .u32 0, .nils] (.l 0) (.l 0)⟩,
    ⟨none, .mov (.l 0)⟩] [(2, 0)] []) (
  .seq (.reg false [⟨none, .mov (.r 2)⟩,
    ⟨none, .mov (.r 0)⟩,
    ⟨none, .cpy 18 (.l 1) (.l 0)⟩] [] []) (
  .seq (.reg false [⟨none, .mov (.r 2)⟩,
    ⟨none, .mov (.l 0)⟩] [(1, 0)] []) (
  .ret)))))⟩
def fn67 : Fn := ⟨1, 4, [0, 2, 3, 6], [.r 1],
  .seq (.reg false [⟨none, .mov (.v (.c (.d (.nils))))⟩] [(1, 0)] []) (
  .seq (.seq (.reg false [⟨none, .mov (.r 0)⟩,
    ⟨none, .len (.l 0)⟩,
    ⟨none, .bin .eql (.l 0) (.v (.c (.d (.int .i64 0))))⟩] [(3, 0)] []) (
  .cond (.r 3) (
  .seq (.reg false [⟨none, .mov (.v (.c (.d (.nils))))⟩] [(1, 0)] []) (
  .ret)) (
  .skip))) (
  .seq (.reg false [⟨none, .mov (.r 0)⟩,
    ⟨none, .len (.l 0)⟩,
    ⟨none, .mks 8 88 [.bool false, .bool false, .nils, .bool false, .nils, .int .i64 0, .int .i64 0, .int .i64 0] (.l 0) (.l 0)⟩,
    ⟨none, .mov (.l 0)⟩] [(2, 0)] []) (
  .seq (.reg false [⟨none, .mov (.r 2)⟩,
    ⟨none, .mov (.r 0)⟩,
    ⟨none, .cpy 8 (.l 1) (.l 0)⟩] [] []) (
  .seq (.reg false [⟨none, .mov (.r 2)⟩,
    ⟨none, .mov (.l 0)⟩] [(1, 0)] []) (
  .ret)))))⟩
def fn74L0 : I := .seq (.reg false [⟨none, .bin .lss (.r 6) (.r 5)⟩] [(7, 0)] []) (
  .seq (.cond (.r 7) (
  .skip) (
  .exit 0)) (
  .seq (.block 1 (
  .seq (.reg false [⟨none, .mov (.r 6)⟩,
    ⟨none, .mov (.l 0)⟩] [(3, 0)] []) (
  .seq (.reg true [⟨none, .mov (.r 0)⟩,
    ⟨none, .mov (.r 3)⟩,
    ⟨none, .ixa 34 (.l 1) (.l 0)⟩,
    ⟨none, .ld true 34 (.l 0)⟩,
    ⟨none, .mov (.r 1)⟩,
    ⟨none, .mov (.r 3)⟩,
    ⟨none, .ixa 34 (.l 1) (.l 0)⟩,
    ⟨none, .ld true 34 (.l 0)⟩,
    ⟨none, .eqa true 34 (.l 4) (.l 0)⟩] [(8, 0)] []) (
  .cond (.r 8) (
  .seq (.reg false [⟨none, .mov (.v (.c (.d (.bool false))))⟩] [(2, 0)] []) (
  .ret)) (
  .skip))))) (
  .reg false [⟨none, .bin .add (.r 6) (.v (.c (.d (.int .i64 1))))⟩,
    ⟨none, .mov (.l 0)⟩] [(6, 0)] [])))
def fn74 : Fn := ⟨2, 9, [0, 1, 4, 5, 10, 12, 13, 14, 24], [.r 2],
  .seq (.reg false [⟨none, .mov (.v (.c (.d (.bool false))))⟩] [(2, 0)] []) (
  .seq (.seq (.reg false [⟨none, .mov (.r 0)⟩,
    ⟨none, .len (.l 0)⟩,
    ⟨none, .mov (.r 1)⟩,
    ⟨none, .len (.l 0)⟩,
    ⟨none, .bin .neq (.l 2) (.l 0)⟩] [(4, 0)] []) (
  .cond (.r 4) (
  .seq (.reg false [⟨none, .mov (.v (.c (.d (.bool false))))⟩] [(2, 0)] []) (
  .ret)) (
  .skip))) (
  .seq (.seq (.reg false [⟨none, .mov (.r 0)⟩,
    ⟨none, .len (.l 0)⟩,
    ⟨none, .mov (.v (.c (.d (.int .i64 0))))⟩] [(5, 1), (6, 0)] []) (
  .block 0 (
  .loop (some [0, 1, 5, 6]) fn74L0))) (
  .seq (.reg false [⟨none, .mov (.v (.c (.d (.bool true))))⟩] [(2, 0)] []) (
  .ret))))⟩
def fn75L0 : I := .seq (.reg false [⟨none, .bin .lss (.r 10) (.r 9)⟩] [(11, 0)] []) (
  .seq (.cond (.r 11) (
  .skip) (
  .exit 0)) (
  .seq (.block 1 (
  .seq (.reg false [⟨none, .mov (.r 10)⟩,
    ⟨none, .ixa 18 (.r 8) (.r 10)⟩,
    ⟨none, .ld true 18 (.l 0)⟩,
    ⟨none, .pre⟩,
    ⟨none, .mov (.l 3)⟩,
    ⟨none, .ini 18 (.l 2)⟩] [(4, 1), (5, 0)] []) (
  .seq (.reg false [⟨none, .mov (.r 1)⟩,
    ⟨none, .mov (.r 4)⟩,
    ⟨none, .ixa 18 (.l 1) (.l 0)⟩,
    ⟨none, .ld true 18 (.l 0)⟩,
    ⟨none, .pre⟩,
    ⟨none, .ini 18 (.l 1)⟩] [(6, 0)] []) (
  .seq (.reg false [⟨none, .mov (.r 2)⟩,
    ⟨none, .ld true 18 (.r 5)⟩,
    ⟨none, .ld true 18 (.r 6)⟩,
    ⟨none, .hc (.l 2) [(.l 1), (.l 0)]⟩,
    ⟨none, .un .not (.l 0)⟩] [(12, 0)] []) (
  .cond (.r 12) (
  .seq (.reg false [⟨none, .mov (.v (.c (.d (.bool false))))⟩] [(3, 0)] []) (
  .ret)) (
  .skip)))))) (
  .reg false [⟨none, .bin .add (.r 10) (.v (.c (.d (.int .i64 1))))⟩,
    ⟨none, .mov (.l 0)⟩] [(10, 0)] [])))
def fn75 : Fn := ⟨3, 13, [0, 1, 2, 6, 7, 8, 9, 14, 15, 16, 17, 18, 30], [.r 3],
  .seq (.reg false [⟨none, .mov (.v (.c (.d (.bool false))))⟩] [(3, 0)] []) (
  .seq (.seq (.reg false [⟨none, .mov (.r 0)⟩,
    ⟨none, .len (.l 0)⟩,
    ⟨none, .mov (.r 1)⟩,
    ⟨none, .len (.l 0)⟩,
    ⟨none, .bin .neq (.l 2) (.l 0)⟩] [(7, 0)] []) (
  .cond (.r 7) (
  .seq (.reg false [⟨none, .mov (.v (.c (.d (.bool false))))⟩] [(3, 0)] []) (
  .ret)) (
  .skip))) (
  .seq (.seq (.reg false [⟨none, .mov (.r 0)⟩,
    ⟨none, .len (.l 0)⟩,
    ⟨none, .mov (.v (.c (.d (.int .i64 0))))⟩] [(8, 2), (9, 1), (10, 0)] []) (
  .block 0 (
  .loop (some [1, 2, 8, 9, 10]) fn75L0))) (
  .seq (.reg false [⟨none, .mov (.v (.c (.d (.bool true))))⟩] [(3, 0)] []) (
  .ret))))⟩
def fn76 : Fn := ⟨2, 5, [0, 1, 2, 3, 4], [.r 4],
  .seq (.reg false [⟨none, .box (.r 0)⟩,
    ⟨none, .box (.r 1)⟩,
    ⟨none, .mov (.v (.c (.d (.bool false))))⟩] [(2, 2), (3, 1), (4, 0)] []) (
  .seq (.reg false [⟨none, .fa 0 (.r 2)⟩,
    ⟨none, .ld true 17 (.l 0)⟩,
    ⟨none, .fa 0 (.r 3)⟩,
    ⟨none, .ld true 17 (.l 0)⟩,
    ⟨none, .eqa false 17 (.l 2) (.l 0)⟩,
    ⟨none, .mov (.l 0)⟩,
    ⟨some (0, true), .fa 17 (.r 2)⟩,
    ⟨some (1, true), .ld false 1 (.l 0)⟩,
    ⟨some (2, true), .fa 17 (.r 3)⟩,
    ⟨some (3, true), .ld false 1 (.l 0)⟩,
    ⟨some (4, true), .vc 77 [(.l 2), (.l 0)]⟩,
    ⟨none, .pick (.l 5) (.l 0) (.v (.c (.d (.bool false))))⟩,
    ⟨none, .mov (.l 0)⟩] [(4, 0)] []) (
  .ret))⟩
def fn77 : Fn := ⟨2, 3, [0, 1, 4], [.r 2],
  .seq (.reg false [⟨none, .mov (.v (.c (.d (.bool false))))⟩] [(2, 0)] []) (
  .seq (.reg false [⟨none, .mov (.r 0)⟩,
    ⟨none, .mov (.r 1)⟩,
    ⟨none, .vc 114 [(.l 1), (.l 0), (.v (.c (.d (.fn 115 [] []))))]⟩,
    ⟨none, .mov (.l 0)⟩] [(2, 0)] []) (
  .ret))⟩
def fn79L0 : I := .seq (.seq (.reg false [⟨none, .mov (.r 3)⟩,
    ⟨none, .mov (.r 0)⟩,
    ⟨none, .len (.l 0)⟩,
    ⟨none, .bin .lss (.l 2) (.l 0)⟩] [(5, 0)] []) (
  .cond (.r 5) (
  .skip) (
  .exit 0))) (
  .seq (.block 1 (
  .reg false [⟨none, .mov (.r 2)⟩,
    ⟨none, .mov (.r 0)⟩,
    ⟨none, .mov (.r 3)⟩,
    ⟨none, .ixa 1 (.l 1) (.l 0)⟩,
    ⟨none, .ld false 1 (.l 0)⟩,
    ⟨none, .mm false (.l 4) (.l 0)⟩,
    ⟨none, .mov (.l 0)⟩] [(2, 0)] [])) (
  .reg false [⟨none, .mov (.r 3)⟩,
    ⟨none, .bin .add (.l 0) (.v (.c (.d (.int .i64 1))))⟩,
    ⟨none, .mov (.l 0)⟩] [(3, 0)] []))
def fn79 : Fn := ⟨1, 6, [0, 2, 3, 4, 7, 15], [.r 1],
  .seq (.reg false [⟨none, .mov (.v (.c (.d (.int .i64 0))))⟩] [(1, 0)] []) (
  .seq (.seq (.reg false [⟨none, .mov (.r 0)⟩,
    ⟨none, .len (.l 0)⟩,
    ⟨none, .bin .lss (.l 0) (.v (.c (.d (.int .i64 1))))⟩] [(4, 0)] []) (
  .cond (.r 4) (
  .bad) (
  .skip))) (
  .seq (.reg false [⟨none, .mov (.r 0)⟩,
    ⟨none, .ixa 1 (.l 0) (.v (.c (.d (.int .i64 0))))⟩,
    ⟨none, .ld false 1 (.l 0)⟩,
    ⟨none, .mov (.l 0)⟩] [(2, 0)] []) (
  .seq (.seq (.reg false [⟨none, .mov (.v (.c (.d (.int .i64 1))))⟩] [(3, 0)] []) (
  .block 0 (
  .loop (some [0, 2, 3]) fn79L0))) (
  .seq (.reg false [⟨none, .mov (.r 2)⟩,
    ⟨none, .mov (.l 0)⟩] [(1, 0)] []) (
  .ret)))))⟩
def fn80L0 : I := .seq (.seq (.reg false [⟨none, .mov (.r 3)⟩,
    ⟨none, .mov (.r 0)⟩,
    ⟨none, .len (.l 0)⟩,
    ⟨none, .bin .lss (.l 2) (.l 0)⟩] [(5, 0)] []) (
  .cond (.r 5) (
  .skip) (
  .exit 0))) (
  .seq (.block 1 (
  .reg false [⟨none, .mov (.r 2)⟩,
    ⟨none, .mov (.r 0)⟩,
    ⟨none, .mov (.r 3)⟩,
    ⟨none, .ixa 1 (.l 1) (.l 0)⟩,
    ⟨none, .ld false 1 (.l 0)⟩,
    ⟨none, .mm true (.l 4) (.l 0)⟩,
    ⟨none, .mov (.l 0)⟩] [(2, 0)] [])) (
  .reg false [⟨none, .mov (.r 3)⟩,
    ⟨none, .bin .add (.l 0) (.v (.c (.d (.int .i64 1))))⟩,
    ⟨none, .mov (.l 0)⟩] [(3, 0)] []))
def fn80 : Fn := ⟨1, 6, [0, 2, 3, 4, 7, 15], [.r 1],
  .seq (.reg false [⟨none, .mov (.v (.c (.d (.int .i64 0))))⟩] [(1, 0)] []) (
  .seq (.seq (.reg false [⟨none, .mov (.r 0)⟩,
    ⟨none, .len (.l 0)⟩,
    ⟨none, .bin .lss (.l 0) (.v (.c (.d (.int .i64 1))))⟩] [(4, 0)] []) (
  .cond (.r 4) (
  .bad) (
  .skip))) (
  .seq (.reg false [⟨none, .mov (.r 0)⟩,
    ⟨none, .ixa 1 (.l 0) (.v (.c (.d (.int .i64 0))))⟩,
    ⟨none, .ld false 1 (.l 0)⟩,
    ⟨none, .mov (.l 0)⟩] [(2, 0)] []) (
  .seq (.seq (.reg false [⟨none, .mov (.v (.c (.d (.int .i64 1))))⟩] [(3, 0)] []) (
  .block 0 (
  .loop (some [0, 2, 3]) fn80L0))) (
  .seq (.reg false [⟨none, .mov (.r 2)⟩,
    ⟨none, .mov (.l 0)⟩] [(1, 0)] []) (
  .ret)))))⟩
def fn81 : Fn := ⟨1, 4, [0, 1, 2, 5], [.r 2],
  .seq (.reg false [⟨none, .box (.r 0)⟩,
    ⟨none, .mov (.v (.c (.d (.int .i64 0))))⟩] [(1, 1), (2, 0)] []) (
  .seq (.reg false [⟨none, .ld true 27 (.r 1)⟩,
    ⟨none, .vc 121 [(.l 0)]⟩,
    ⟨none, .mov (.l 0)⟩,
    ⟨none, .ext (.l 0) 0⟩,
    ⟨none, .ext (.l 1) 1⟩,
    ⟨none, .ext (.l 2) 2⟩,
    ⟨none, .pre⟩,
    ⟨none, .ini 5 (.l 3)⟩,
    ⟨none, .mov (.l 3)⟩,
    ⟨none, .mov (.l 3)⟩] [(3, 0)] []) (
  .seq (.reg false [⟨none, .mov (.r 3)⟩,
    ⟨none, .mov (.l 0)⟩] [(2, 0)] []) (
  .ret)))⟩
def fn82L0 : I := .seq (.reg false [⟨none, .bin .lss (.r 6) (.r 5)⟩] [(7, 0)] []) (
  .seq (.cond (.r 7) (
  .skip) (
  .exit 0)) (
  .seq (.block 1 (
  .seq (.reg false [⟨none, .mov (.r 6)⟩,
    ⟨none, .mov (.l 0)⟩] [(4, 0)] []) (
  .seq (.reg true [⟨none, .ld true 34 (.r 2)⟩,
    ⟨none, .mov (.r 0)⟩,
    ⟨none, .mov (.r 4)⟩,
    ⟨none, .ixa 34 (.l 1) (.l 0)⟩,
    ⟨none, .ld true 34 (.l 0)⟩,
    ⟨none, .eqa false 34 (.l 4) (.l 0)⟩] [(8, 0)] []) (
  .cond (.r 8) (
  .seq (.reg false [⟨none, .mov (.r 4)⟩,
    ⟨none, .mov (.l 0)⟩] [(3, 0)] []) (
  .ret)) (
  .skip))))) (
  .reg false [⟨none, .bin .add (.r 6) (.v (.c (.d (.int .i64 1))))⟩,
    ⟨none, .mov (.l 0)⟩] [(6, 0)] [])))
def fn82 : Fn := ⟨2, 9, [0, 1, 3, 4, 5, 7, 8, 9, 16], [.r 3],
  .seq (.reg false [⟨none, .box (.r 1)⟩,
    ⟨none, .mov (.v (.c (.d (.int .i64 0))))⟩] [(2, 1), (3, 0)] []) (
  .seq (.seq (.reg false [⟨none, .mov (.r 0)⟩,
    ⟨none, .len (.l 0)⟩,
    ⟨none, .mov (.v (.c (.d (.int .i64 0))))⟩] [(5, 1), (6, 0)] []) (
  .block 0 (
  .loop (some [0, 2, 5, 6]) fn82L0))) (
  .seq (.reg false [⟨none, .mov (.v (.c (.d (.int .i64 (-1)))))⟩] [(3, 0)] []) (
  .ret)))⟩
def fn83 : Fn := ⟨1, 5, [0, 2, 3, 6, 18], [.cell 1 17 true],
  .seq (.reg false [⟨none, .new [.int .u8 0, .int .u32 0, .int .u32 0, .int .u32 0, .int .u32 0, .int .u32 0, .int .u32 0, .int .u32 0, .int .u32 0, .int .u32 0, .int .u32 0, .int .u32 0, .int .u32 0, .int .u32 0, .int .u32 0, .int .u32 0, .int .u32 0]⟩] [(1, 0)] []) (
  .seq (.seq (.reg false [⟨none, .mov (.r 0)⟩,
    ⟨none, .len (.l 0)⟩,
    ⟨none, .bin .gtr (.l 0) (.v (.c (.d (.int .i64 16))))⟩] [(3, 0)] []) (
  .cond (.r 3) (
  .seq (.reg false [⟨none, .bld [.int .u8 0, .int .u32 0, .int .u32 0, .int .u32 0, .int .u32 0, .int .u32 0, .int .u32 0, .int .u32 0, .int .u32 0, .int .u32 0, .int .u32 0, .int .u32 0, .int .u32 0, .int .u32 0, .int .u32 0, .int .u32 0, .int .u32 0] []⟩,
    ⟨none, .st 17 (.r 1) (.l 0)⟩] [] []) (
  .ret)) (
  .skip))) (
  .seq (.reg false [⟨none, .mov (.r 0)⟩,
    ⟨none, .len (.l 0)⟩,
    ⟨none, .cvi .u8 (.l 0)⟩,
    ⟨none, .bld [.int .u8 0, .int .u32 0, .int .u32 0, .int .u32 0, .int .u32 0, .int .u32 0, .int .u32 0, .int .u32 0, .int .u32 0, .int .u32 0, .int .u32 0, .int .u32 0, .int .u32 0, .int .u32 0, .int .u32 0, .int .u32 0, .int .u32 0] [(0, 1, (.l 0))]⟩,
    ⟨none, .pre⟩,
    ⟨none, .ini 17 (.l 1)⟩] [(2, 0)] []) (
  .seq (.reg false [⟨none, .fa 1 (.r 2)⟩,
    ⟨none, .slp 16 1 (.l 0) none none none⟩,
    ⟨none, .mov (.r 0)⟩,
    ⟨none, .cpy 1 (.l 1) (.l 0)⟩] [] []) (
  .seq (.seq (.reg false [⟨none, .ld true 17 (.r 2)⟩,
    ⟨none, .vc 52 [(.l 0)]⟩,
    ⟨none, .bin .neq (.l 0) (.v (.c (.d (.int .i64 0))))⟩] [(4, 0)] []) (
  .cond (.r 4) (
  .seq (.reg false [⟨none, .bld [.int .u8 0, .int .u32 0, .int .u32 0, .int .u32 0, .int .u32 0, .int .u32 0, .int .u32 0, .int .u32 0, .int .u32 0, .int .u32 0, .int .u32 0, .int .u32 0, .int .u32 0, .int .u32 0, .int .u32 0, .int .u32 0, .int .u32 0] []⟩,
    ⟨none, .st 17 (.r 1) (.l 0)⟩] [] []) (
  .ret)) (
  .skip))) (
  .seq (.reg false [⟨none, .ld true 17 (.r 2)⟩,
    ⟨none, .st 17 (.r 1) (.l 0)⟩] [] []) (
  .ret))))))⟩
def fn84 : Fn := ⟨1, 4, [0, 2, 3, 6], [.r 1],
  .seq (.reg false [⟨none, .mov (.v (.c (.d (.nils))))⟩] [(1, 0)] []) (
  .seq (.seq (.reg false [⟨none, .mov (.r 0)⟩,
    ⟨none, .len (.l 0)⟩,
    ⟨none, .bin .eql (.l 0) (.v (.c (.d (.int .i64 0))))⟩] [(3, 0)] []) (
  .cond (.r 3) (
  .seq (.reg false [⟨none, .mov (.v (.c (.d (.nils))))⟩] [(1, 0)] []) (
  .ret)) (
  .skip))) (
  .seq (.reg false [⟨none, .mov (.r 0)⟩,
    ⟨none, .len (.l 0)⟩,
    ⟨none, .mks 27 208 [.int .u8 0, .str [], .bool false, .int .u32 0, .str [], .nils, .bool false, .int .u32 0, .str [], .int .u8 0, .int .u32 0, .int .u32 0, .int .u32 0, .int .u32 0, .int .u32 0, .int .u32 0, .int .u32 0, .int .u32 0, .int .u32 0, .int .u32 0, .int .u32 0, .int .u32 0, .int .u32 0, .int .u32 0, .int .u32 0, .int .u32 0, .nils] (.l 0) (.l 0)⟩,
    ⟨none, .mov (.l 0)⟩] [(2, 0)] []) (
  .seq (.reg false [⟨none, .mov (.r 2)⟩,
    ⟨none, .mov (.r 0)⟩,
    ⟨none, .cpy 27 (.l 1) (.l 0)⟩] [] []) (
  .seq (.reg false [⟨none, .mov (.r 2)⟩,
    ⟨none, .mov (.l 0)⟩] [(1, 0)] []) (
  .ret)))))⟩
def fn85 : Fn := ⟨1, 4, [0, 2, 3, 6], [.r 1],
  .seq (.reg false [⟨none, .mov (.v (.c (.d (.nils))))⟩] [(1, 0)] []) (
  .seq (.seq (.reg false [⟨none, .mov (.r 0)⟩,
    ⟨none, .len (.l 0)⟩,
    ⟨none, .bin .eql (.l 0) (.v (.c (.d (.int .i64 0))))⟩] [(3, 0)] []) (
  .cond (.r 3) (
  .seq (.reg false [⟨none, .mov (.v (.c (.d (.nils))))⟩] [(1, 0)] []) (
  .ret)) (
  .skip))) (
  .seq (.reg false [⟨none, .mov (.r 0)⟩,
    ⟨none, .len (.l 0)⟩,
    ⟨none, .mks 1 4 [.int .u32 0] (.l 0) (.l 0)⟩,
    ⟨none, .mov (.l 0)⟩] [(2, 0)] []) (
  .seq (.reg false [⟨none, .mov (.r 2)⟩,
    ⟨none, .mov (.r 0)⟩,
    ⟨none, .cpy 1 (.l 1) (.l 0)⟩] [] []) (
  .seq (.reg false [⟨none, .mov (.r 2)⟩,
    ⟨none, .mov (.l 0)⟩] [(1, 0)] []) (
  .ret)))))⟩
def fn86 : Fn := ⟨1, 4, [0, 2, 3, 6], [.r 1],
  .seq (.reg false [⟨none, .mov (.v (.c (.d (.nils))))⟩] [(1, 0)] []) (
  .seq (.seq (.reg false [⟨none, .mov (.r 0)⟩,
    ⟨none, .len (.l 0)⟩,
    ⟨none, .bin .eql (.l 0) (.v (.c (.d (.int .i64 0))))⟩] [(3, 0)] []) (
  .cond (.r 3) (
  .seq (.reg false [⟨none, .mov (.v (.c (.d (.nils))))⟩] [(1, 0)] []) (
  .ret)) (
  .skip))) (
  .seq (.reg false [⟨none, .mov (.r 0)⟩,
    ⟨none, .len (.l 0)⟩,
    ⟨none, .mks 1 1 [.int .u8 0] (.l 0) (.l 0)⟩,
    ⟨none, .mov (.l 0)⟩] [(2, 0)] []) (
  .seq (.reg false [⟨none, .mov (.r 2)⟩,
    ⟨none, .mov (.r 0)⟩,
    ⟨none, .cpy 1 (.l 1) (.l 0)⟩] [] []) (
  .seq (.reg false [⟨none, .mov (.r 2)⟩,
    ⟨none, .mov (.l 0)⟩] [(1, 0)] []) (
  .ret)))))⟩
def fn87 : Fn := ⟨2, 4, [0, 1, 4, 5], [.r 2, .r 3],
  .seq (.freshb 0 1) (.seq (.reg false [⟨none, .mov (.v (.c (.d (.int .i64 0))))⟩,
    ⟨none, .mov (.v (.c (.d (.nili))))⟩] [(2, 1), (3, 0)] []) (
  .seq (.reg false [⟨none, .mov (.r 0)⟩,
    ⟨none, .hc (.v (.c (.d (.fn 122 [] [])))) [(.l 0)]⟩] [] []) (
  .seq (.reg false [⟨none, .mov (.r 0)⟩,
    ⟨none, .mov (.r 0)⟩,
    ⟨none, .nlc (.l 0)⟩,
    ⟨none, .fa 1 (.l 0)⟩,
    ⟨none, .ld false 1 (.l 0)⟩,
    ⟨none, .mov (.r 1)⟩,
    ⟨none, .apb (.l 1) (.l 0)⟩,
    ⟨none, .nlc (.l 6)⟩,
    ⟨none, .fa 1 (.l 0)⟩,
    ⟨none, .st 1 (.l 0) (.l 2)⟩] [] []) (
  .seq (.reg false [⟨none, .mov (.r 1)⟩,
    ⟨none, .lns (.l 0)⟩,
    ⟨none, .mov (.l 0)⟩,
    ⟨none, .mov (.v (.c (.d (.nili))))⟩] [(2, 1), (3, 0)] []) (
  .ret)))))⟩
def fn88L0 : I := .seq (.reg false [⟨none, .bin .lss (.r 9) (.r 8)⟩] [(10, 0)] []) (
  .seq (.cond (.r 10) (
  .skip) (
  .exit 0)) (
  .seq (.block 1 (
  .seq (.reg false [⟨none, .mov (.r 9)⟩,
    ⟨none, .ixa 1 (.r 7) (.r 9)⟩,
    ⟨none, .ld false 1 (.l 0)⟩,
    ⟨none, .mov (.l 2)⟩,
    ⟨none, .mov (.l 1)⟩] [(4, 1), (5, 0)] []) (
  .reg false [⟨none, .mov (.r 3)⟩,
    ⟨none, .mov (.r 4)⟩,
    ⟨none, .mov (.r 5)⟩,
    ⟨none, .cvi .u64 (.l 0)⟩,
    ⟨none, .vc 124 [(.l 0), (.v (.c (.d (.int .i64 10))))]⟩,
    ⟨none, .ixa 1 (.l 4) (.l 3)⟩,
    ⟨none, .st 1 (.l 0) (.l 1)⟩] [] []))) (
  .reg false [⟨none, .bin .add (.r 9) (.v (.c (.d (.int .i64 1))))⟩,
    ⟨none, .mov (.l 0)⟩] [(9, 0)] [])))
def fn88 : Fn := ⟨1, 11, [0, 1, 2, 3, 4, 5, 8, 12, 13, 14, 15], [.r 2],
  .seq (.reg false [⟨none, .box (.r 0)⟩,
    ⟨none, .mov (.v (.c (.d (.str []))))⟩] [(1, 1), (2, 0)] []) (
  .seq (.seq (.reg false [⟨none, .ld true 17 (.r 1)⟩,
    ⟨none, .vc 52 [(.l 0)]⟩,
    ⟨none, .bin .neq (.l 0) (.v (.c (.d (.int .i64 0))))⟩] [(6, 0)] []) (
  .cond (.r 6) (
  .seq (.reg false [⟨none, .mov (.v (.c (.d (.str [63]))))⟩] [(2, 0)] []) (
  .ret)) (
  .skip))) (
  .seq (.reg false [⟨none, .fa 0 (.r 1)⟩,
    ⟨none, .ld false 1 (.l 0)⟩,
    ⟨none, .mks 1 16 [.str []] (.l 0) (.l 0)⟩,
    ⟨none, .mov (.l 0)⟩] [(3, 0)] []) (
  .seq (.seq (.reg false [⟨none, .hc (.v (.c (.d (.fn 123 [] [])))) [(.r 1)]⟩,
    ⟨none, .len (.l 0)⟩,
    ⟨none, .mov (.v (.c (.d (.int .i64 0))))⟩] [(7, 2), (8, 1), (9, 0)] []) (
  .block 0 (
  .loop (some [3, 7, 8, 9]) fn88L0))) (
  .seq (.reg false [⟨none, .mov (.r 3)⟩,
    ⟨none, .pc 125 [(.l 0), (.v (.c (.d (.str [46]))))]⟩,
    ⟨none, .mov (.l 0)⟩] [(2, 0)] []) (
  .ret)))))⟩
def fn89 : Fn := ⟨1, 6, [0, 1, 2, 3, 4, 6], [.cell 2 5 true, .r 3],
  .seq (.reg false [⟨none, .box (.r 0)⟩,
    ⟨none, .new [.int .u8 0, .bool false, .int .u32 0, .nils, .nils]⟩,
    ⟨none, .mov (.v (.c (.d (.int .i64 0))))⟩] [(1, 2), (2, 1), (3, 0)] []) (
  .seq (.reg false [⟨none, .ld true 27 (.r 1)⟩,
    ⟨none, .vc 121 [(.l 0)]⟩,
    ⟨none, .mov (.l 0)⟩,
    ⟨none, .ext (.l 0) 0⟩,
    ⟨none, .ext (.l 1) 1⟩,
    ⟨none, .ext (.l 2) 2⟩,
    ⟨none, .pre⟩,
    ⟨none, .ini 5 (.l 3)⟩,
    ⟨none, .mov (.l 3)⟩,
    ⟨none, .mov (.l 3)⟩] [(4, 2), (5, 0)] []) (
  .seq (.reg false [⟨none, .ld true 5 (.r 4)⟩,
    ⟨none, .mov (.r 5)⟩,
    ⟨none, .st 5 (.r 2) (.l 1)⟩,
    ⟨none, .mov (.l 1)⟩] [(3, 0)] []) (
  .ret)))⟩
def fn90 : Fn := ⟨1, 8, [0, 1, 2, 3, 4, 5, 9, 14], [.r 2, .r 3],
  .seq (.reg false [⟨none, .box (.r 0)⟩,
    ⟨none, .mov (.v (.c (.d (.nils))))⟩,
    ⟨none, .mov (.v (.c (.d (.int .i64 0))))⟩] [(1, 2), (2, 1), (3, 0)] []) (
  .seq (.seq (.reg false [⟨none, .ld true 5 (.r 1)⟩,
    ⟨none, .vc 126 [(.l 0)]⟩,
    ⟨none, .mov (.l 0)⟩] [(4, 0)] []) (
  .seq (.reg false [⟨none, .mov (.r 4)⟩,
    ⟨none, .bin .neq (.l 0) (.v (.c (.d (.int .i64 0))))⟩] [(6, 0)] []) (
  .cond (.r 6) (
  .seq (.reg false [⟨none, .mov (.r 4)⟩,
    ⟨none, .mov (.v (.c (.d (.nils))))⟩,
    ⟨none, .mov (.l 1)⟩] [(2, 1), (3, 0)] []) (
  .ret)) (
  .skip)))) (
  .seq (.reg false [⟨none, .ld true 5 (.r 1)⟩,
    ⟨none, .vc 127 [(.l 0)]⟩,
    ⟨none, .mov (.l 0)⟩] [(5, 0)] []) (
  .seq (.seq (.reg false [⟨none, .mov (.r 5)⟩,
    ⟨none, .bin .gtr (.l 0) (.v (.c (.d (.int .i64 1048576))))⟩] [(7, 0)] []) (
  .cond (.r 7) (
  .seq (.reg false [⟨none, .mov (.v (.c (.d (.nils))))⟩,
    ⟨none, .mov (.v (.c (.d (.int .i64 3))))⟩] [(2, 1), (3, 0)] []) (
  .ret)) (
  .skip))) (
  .seq (.reg true [⟨none, .mov (.r 5)⟩,
    ⟨none, .mks 1 1 [.int .u8 0] (.v (.c (.d (.int .i64 0)))) (.l 0)⟩,
    ⟨none, .ld true 5 (.r 1)⟩,
    ⟨none, .hc (.v (.c (.d (.fn 128 [] [])))) [(.l 1), (.l 0)]⟩,
    ⟨none, .mov (.l 0)⟩,
    ⟨none, .mov (.v (.c (.d (.int .i64 0))))⟩] [(2, 1), (3, 0)] []) (
  .ret)))))⟩
def fn91L0 : I := .seq (.reg false [⟨none, .bin .lss (.r 6) (.r 5)⟩] [(7, 0)] []) (
  .seq (.cond (.r 7) (
  .skip) (
  .exit 0)) (
  .seq (.block 1 (
  .seq (.reg false [⟨none, .ixa 1 (.r 4) (.r 6)⟩,
    ⟨none, .ld false 1 (.l 0)⟩,
    ⟨none, .mov (.l 0)⟩] [(3, 0)] []) (
  .reg true [⟨none, .mov (.r 2)⟩,
    ⟨none, .mov (.r 3)⟩,
    ⟨none, .bin .quo (.l 0) (.v (.c (.d (.int .u8 16))))⟩,
    ⟨none, .ixs (.v (.c (.d (.str [48, 49, 50, 51, 52, 53, 54, 55, 56, 57, 97, 98, 99, 100, 101, 102])))) (.l 0)⟩,
    ⟨none, .mov (.r 3)⟩,
    ⟨none, .bin .rem (.l 0) (.v (.c (.d (.int .u8 16))))⟩,
    ⟨none, .ixs (.v (.c (.d (.str [48, 49, 50, 51, 52, 53, 54, 55, 56, 57, 97, 98, 99, 100, 101, 102])))) (.l 0)⟩,
    ⟨none, .bsl 2 1 [.int .u8 0] [(0, 1, (.l 3)), (1, 1, (.l 0))]⟩,
    ⟨none, .app 1 (.l 7) (.l 0)⟩,
    ⟨none, .mov (.l 0)⟩] [(2, 0)] []))) (
  .reg false [⟨none, .bin .add (.r 6) (.v (.c (.d (.int .i64 1))))⟩,
    ⟨none, .mov (.l 0)⟩] [(6, 0)] [])))
def fn91 : Fn := ⟨1, 8, [0, 2, 3, 5, 10, 11, 12, 13], [.r 1],
  .seq (.reg false [⟨none, .mov (.v (.c (.d (.str []))))⟩] [(1, 0)] []) (
  .seq (.reg false [⟨none, .mov (.r 0)⟩,
    ⟨none, .len (.l 0)⟩,
    ⟨none, .bin .mul (.v (.c (.d (.int .i64 2)))) (.l 0)⟩,
    ⟨none, .mks 1 1 [.int .u8 0] (.v (.c (.d (.int .i64 0)))) (.l 0)⟩,
    ⟨none, .mov (.l 0)⟩] [(2, 0)] []) (
  .seq (.seq (.reg false [⟨none, .mov (.r 0)⟩,
    ⟨none, .len (.l 0)⟩,
    ⟨none, .mov (.v (.c (.d (.int .i64 0))))⟩] [(4, 2), (5, 1), (6, 0)] []) (
  .block 0 (
  .seq (.fresh 2 none 1) (
  .loop (some [2, 4, 5, 6]) fn91L0)))) (
  .seq (.reg false [⟨none, .mov (.r 2)⟩,
    ⟨none, .b2s (.l 0)⟩,
    ⟨none, .mov (.l 0)⟩] [(1, 0)] []) (
  .ret))))⟩
def fn92 : Fn := ⟨3, 4, [0, 1, 2, 7], [],
  .seq (.reg false [⟨none, .mov (.r 2)⟩,
    ⟨none, .bin .neq (.l 0) (.v (.c (.d (.int .i64 (-1)))))⟩] [(3, 0)] []) (
  .cond (.r 3) (
  .reg false [⟨none, .mov (.r 0)⟩,
    ⟨none, .mov (.r 1)⟩,
    ⟨none, .bin .add (.l 0) (.v (.c (.d (.str [32]))))⟩,
    ⟨none, .mov (.r 2)⟩,
    ⟨none, .pc 129 [(.l 0)]⟩,
    ⟨none, .bin .add (.l 2) (.l 0)⟩,
    ⟨none, .bin .add (.l 0) (.v (.c (.d (.str [10]))))⟩,
    ⟨none, .hc (.v (.c (.d (.fn 87 [] [])))) [(.l 6), (.l 0)]⟩] [] []) (
  .skip))⟩
def fn93 : Fn := ⟨2, 3, [0, 1, 4], [],
  .seq (.reg false [⟨none, .mov (.r 0)⟩,
    ⟨none, .len (.l 0)⟩,
    ⟨none, .mov (.l 0)⟩] [(2, 0)] []) (
  .reg false [⟨none, .mov (.r 0)⟩,
    ⟨none, .mov (.r 2)⟩,
    ⟨none, .mov (.r 2)⟩,
    ⟨none, .cvi .u64 (.l 0)⟩,
    ⟨none, .vc 131 [(.l 0)]⟩,
    ⟨none, .mov (.r 1)⟩,
    ⟨none, .hc (.v (.c (.d (.fn 130 [] [])))) [(.l 5), (.v (.c (.d (.int .i64 0)))), (.l 4), (.l 1), (.l 0)]⟩] [] [])⟩
def fn94 : Fn := ⟨2, 5, [0, 1, 2, 3, 4], [.r 4],
  .seq (.reg false [⟨none, .box (.r 0)⟩,
    ⟨none, .box (.r 1)⟩,
    ⟨none, .mov (.v (.c (.d (.int .i64 0))))⟩] [(2, 2), (3, 1), (4, 0)] []) (
  .seq (.reg false [⟨none, .hc (.v (.c (.d (.fn 123 [] [])))) [(.r 2)]⟩,
    ⟨none, .hc (.v (.c (.d (.fn 123 [] [])))) [(.r 3)]⟩,
    ⟨none, .vc 132 [(.l 1), (.l 0)]⟩,
    ⟨none, .mov (.l 0)⟩] [(4, 0)] []) (
  .ret))⟩
def fn95 : Fn := ⟨1, 4, [0, 2, 3, 6], [.r 1],
  .seq (.reg false [⟨none, .mov (.v (.c (.d (.nils))))⟩] [(1, 0)] []) (
  .seq (.seq (.reg false [⟨none, .mov (.r 0)⟩,
    ⟨none, .len (.l 0)⟩,
    ⟨none, .bin .eql (.l 0) (.v (.c (.d (.int .i64 0))))⟩] [(3, 0)] []) (
  .cond (.r 3) (
  .seq (.reg false [⟨none, .mov (.v (.c (.d (.nils))))⟩] [(1, 0)] []) (
  .ret)) (
  .skip))) (
  .seq (.reg false [⟨none, .mov (.r 0)⟩,
    ⟨none, .len (.l 0)⟩,
    ⟨none, .mks 17 68 [.int .u8 0, .int .u32 0, .int .u32 0, .int .u32 0, .int .u32 0, .int .u32 0, .int .u32 0, .int .u32 0, .int .u32 0, .int .u32 0, .int .u32 0, .int .u32 0, .int .u32 0, .int .u32 0, .int .u32 0, .int .u32 0, .int .u32 0] (.l 0) (.l 0)⟩,
    ⟨none, .mov (.l 0)⟩] [(2, 0)] []) (
  .seq (.reg false [⟨none, .mov (.r 2)⟩,
    ⟨none, .mov (.r 0)⟩,
    ⟨none, .cpy 17 (.l 1) (.l 0)⟩] [] []) (
  .seq (.reg false [⟨none, .mov (.r 2)⟩,
    ⟨none, .mov (.l 0)⟩] [(1, 0)] []) (
  .ret)))))⟩
def fn96L0 : I := .seq (.seq (.reg false [⟨none, .mov (.r 4)⟩,
    ⟨none, .mov (.r 3)⟩,
    ⟨none, .len (.l 0)⟩,
    ⟨none, .bin .lss (.l 2) (.l 0)⟩] [(8, 0)] []) (
  .cond (.r 8) (
  .skip) (
  .exit 2))) (
  .seq (.block 3 (
  .seq (.reg true [⟨none, .mov (.r 3)⟩,
    ⟨none, .mov (.r 4)⟩,
    ⟨none, .ixa 17 (.l 1) (.l 0)⟩,
    ⟨none, .ld true 17 (.l 0)⟩,
    ⟨none, .mov (.r 3)⟩,
    ⟨none, .mov (.r 4)⟩,
    ⟨none, .bin .sub (.l 0) (.v (.c (.d (.int .i64 1))))⟩,
    ⟨none, .ixa 17 (.l 2) (.l 0)⟩,
    ⟨none, .ld true 17 (.l 0)⟩,
    ⟨none, .eqa true 17 (.l 5) (.l 0)⟩] [(9, 0)] []) (
  .cond (.r 9) (
  .seq (.reg false [⟨none, .mov (.r 0)⟩,
    ⟨none, .mov (.r 2)⟩,
    ⟨none, .mov (.r 3)⟩,
    ⟨none, .mov (.r 4)⟩,
    ⟨none, .ixa 17 (.l 1) (.l 0)⟩,
    ⟨none, .ld true 17 (.l 0)⟩,
    ⟨none, .ixa 17 (.l 5) (.l 4)⟩,
    ⟨none, .st 17 (.l 0) (.l 1)⟩] [] []) (
  .reg false [⟨none, .mov (.r 2)⟩,
    ⟨none, .bin .add (.l 0) (.v (.c (.d (.int .i64 1))))⟩,
    ⟨none, .mov (.l 0)⟩] [(2, 0)] [])) (
  .skip)))) (
  .reg false [⟨none, .mov (.r 4)⟩,
    ⟨none, .bin .add (.l 0) (.v (.c (.d (.int .i64 1))))⟩,
    ⟨none, .mov (.l 0)⟩] [(4, 0)] []))
def fn96L1 : I := .seq (.seq (.reg false [⟨none, .mov (.r 2)⟩,
    ⟨none, .mov (.r 0)⟩,
    ⟨none, .len (.l 0)⟩,
    ⟨none, .bin .lss (.l 2) (.l 0)⟩] [(6, 0)] []) (
  .cond (.r 6) (
  .skip) (
  .exit 0))) (
  .seq (.block 1 (
  .seq (.reg true [⟨none, .mov (.r 0)⟩,
    ⟨none, .mov (.r 2)⟩,
    ⟨none, .ixa 17 (.l 1) (.l 0)⟩,
    ⟨none, .ld true 17 (.l 0)⟩,
    ⟨none, .mov (.r 0)⟩,
    ⟨none, .mov (.r 2)⟩,
    ⟨none, .bin .sub (.l 0) (.v (.c (.d (.int .i64 1))))⟩,
    ⟨none, .ixa 17 (.l 2) (.l 0)⟩,
    ⟨none, .ld true 17 (.l 0)⟩,
    ⟨none, .eqa false 17 (.l 5) (.l 0)⟩] [(7, 0)] []) (
  .cond (.r 7) (
  .seq (.reg false [⟨none, .mov (.r 0)⟩,
    ⟨none, .mov (.r 2)⟩,
    ⟨none, .slc 17 (.l 1) (some (.l 0)) none none⟩,
    ⟨none, .mov (.l 0)⟩] [(3, 0)] []) (
  .seq (.seq (.reg false [⟨none, .mov (.v (.c (.d (.int .i64 1))))⟩] [(4, 0)] []) (
  .block 2 (
  .loop (some [0, 2, 3, 4]) fn96L0))) (
  .seq (.reg false [⟨none, .mov (.r 0)⟩,
    ⟨none, .mov (.r 2)⟩,
    ⟨none, .slc 17 (.l 1) (some (.l 0)) none none⟩,
    ⟨none, .clr 17 [.int .u8 0, .int .u32 0, .int .u32 0, .int .u32 0, .int .u32 0, .int .u32 0, .int .u32 0, .int .u32 0, .int .u32 0, .int .u32 0, .int .u32 0, .int .u32 0, .int .u32 0, .int .u32 0, .int .u32 0, .int .u32 0, .int .u32 0] (.l 0)⟩] [] []) (
  .seq (.reg false [⟨none, .mov (.r 0)⟩,
    ⟨none, .mov (.r 2)⟩,
    ⟨none, .slc 17 (.l 1) none (some (.l 0)) none⟩,
    ⟨none, .mov (.l 0)⟩] [(1, 0)] []) (
  .ret))))) (
  .skip)))) (
  .reg false [⟨none, .mov (.r 2)⟩,
    ⟨none, .bin .add (.l 0) (.v (.c (.d (.int .i64 1))))⟩,
    ⟨none, .mov (.l 0)⟩] [(2, 0)] []))
def fn96 : Fn := ⟨1, 10, [0, 2, 3, 4, 5, 8, 13, 25, 32, 44], [.r 1],
  .seq (.reg false [⟨none, .mov (.v (.c (.d (.nils))))⟩] [(1, 0)] []) (
  .seq (.seq (.reg false [⟨none, .mov (.r 0)⟩,
    ⟨none, .len (.l 0)⟩,
    ⟨none, .bin .lss (.l 0) (.v (.c (.d (.int .i64 2))))⟩] [(5, 0)] []) (
  .cond (.r 5) (
  .seq (.reg false [⟨none, .mov (.r 0)⟩,
    ⟨none, .mov (.l 0)⟩] [(1, 0)] []) (
  .ret)) (
  .skip))) (
  .seq (.seq (.reg false [⟨none, .mov (.v (.c (.d (.int .i64 1))))⟩] [(2, 0)] []) (
  .block 0 (
  .loop (some [0, 2]) fn96L1))) (
  .seq (.reg false [⟨none, .mov (.r 0)⟩,
    ⟨none, .mov (.l 0)⟩] [(1, 0)] []) (
  .ret))))⟩
def fn98L0 : I := .seq (.seq (.reg false [⟨none, .ld false 1 (.r 1)⟩,
    ⟨none, .lns (.l 0)⟩,
    ⟨none, .bin .gtr (.l 0) (.v (.c (.d (.int .i64 0))))⟩] [(5, 0)] []) (
  .cond (.r 5) (
  .skip) (
  .exit 0))) (
  .block 1 (
  .seq (.reg false [⟨none, .ld false 1 (.r 1)⟩,
    ⟨none, .pc 99 [(.l 0), (.v (.c (.d (.str [10]))))]⟩,
    ⟨none, .mov (.l 0)⟩,
    ⟨none, .ext (.l 0) 0⟩,
    ⟨none, .ext (.l 1) 1⟩,
    ⟨none, .ext (.l 2) 2⟩,
    ⟨none, .mov (.l 2)⟩,
    ⟨none, .mov (.l 2)⟩,
    ⟨none, .mov (.l 2)⟩] [(2, 2), (3, 1), (4, 0)] []) (
  .seq (.seq (.reg false [⟨none, .mov (.r 0)⟩,
    ⟨none, .mov (.r 2)⟩,
    ⟨none, .mov (.r 4)⟩,
    ⟨none, .hc (.l 2) [(.l 1), (.l 0)]⟩,
    ⟨none, .un .not (.l 0)⟩] [(6, 0)] []) (
  .cond (.r 6) (
  .ret) (
  .skip))) (
  .reg false [⟨none, .mov (.r 3)⟩,
    ⟨none, .st 1 (.r 1) (.l 0)⟩] [] []))))
def fn98 : Fn := ⟨2, 7, [0, 1, 3, 4, 5, 8, 19], [],
  .block 0 (
  .loop (some [0, 1]) fn98L0)⟩
def fn101 : Fn := ⟨2, 4, [0, 1, 4, 18], [.r 2],
  .seq (.reg false [⟨none, .mov (.v (.c (.d (.bool false))))⟩] [(2, 0)] []) (
  .seq (.seq (.reg false [⟨none, .mov (.r 1)⟩,
    ⟨none, .len (.l 0)⟩,
    ⟨none, .bin .gtr (.l 0) (.v (.c (.d (.int .i64 1))))⟩,
    ⟨none, .mov (.l 0)⟩,
    ⟨some (0, false), .mov (.r 1)⟩,
    ⟨some (1, false), .len (.l 0)⟩,
    ⟨some (2, false), .bin .eql (.l 0) (.v (.c (.d (.int .i64 1))))⟩,
    ⟨some (3, false), .mov (.l 0)⟩,
    ⟨some (0, true), .mov (.r 1)⟩,
    ⟨some (1, true), .ixa 1 (.l 0) (.v (.c (.d (.int .i64 0))))⟩,
    ⟨some (2, true), .ld false 1 (.l 0)⟩,
    ⟨some (3, true), .bin .neq (.l 0) (.v (.c (.d (.str [115, 101, 108, 102, 45, 105, 115, 115, 117, 101, 100]))))⟩,
    ⟨some (8, false), .pick (.l 4) (.l 0) (.v (.c (.d (.bool false))))⟩,
    ⟨none, .pick (.l 9) (.v (.c (.d (.bool true)))) (.l 0)⟩] [(3, 0)] []) (
  .cond (.r 3) (
  .seq (.reg false [⟨none, .mov (.v (.c (.d (.bool false))))⟩] [(2, 0)] []) (
  .ret)) (
  .skip))) (
  .seq (.reg false [⟨none, .mov (.r 0)⟩,
    ⟨none, .mov (.r 0)⟩,
    ⟨none, .nlc (.l 0)⟩,
    ⟨none, .fa 0 (.l 0)⟩,
    ⟨none, .ld false 1 (.l 0)⟩,
    ⟨none, .mov (.r 1)⟩,
    ⟨none, .len (.l 0)⟩,
    ⟨none, .bin .eql (.l 0) (.v (.c (.d (.int .i64 1))))⟩,
    ⟨none, .bld [.bool false, .bool false, .nils, .bool false, .nils, .int .i64 0, .int .i64 0, .int .i64 0] [(0, 1, (.l 0)), (5, 1, (.v (.c (.d (.int .i64 (-1)))))), (6, 1, (.v (.c (.d (.int .i64 (-1)))))), (7, 1, (.v (.c (.d (.int .i64 (-1))))))]⟩,
    ⟨none, .bsl 1 8 [.bool false, .bool false, .nils, .bool false, .nils, .int .i64 0, .int .i64 0, .int .i64 0] [(0, 8, (.l 0))]⟩,
    ⟨none, .app 8 (.l 5) (.l 0)⟩,
    ⟨none, .nlc (.l 10)⟩,
    ⟨none, .fa 0 (.l 0)⟩,
    ⟨none, .st 1 (.l 0) (.l 2)⟩] [] []) (
  .seq (.reg false [⟨none, .mov (.r 0)⟩,
    ⟨none, .nlc (.l 0)⟩,
    ⟨none, .fa 1 (.l 0)⟩,
    ⟨none, .st 1 (.l 0) (.v (.c (.d (.int .i64 1))))⟩] [] []) (
  .seq (.reg false [⟨none, .mov (.v (.c (.d (.bool true))))⟩] [(2, 0)] []) (
  .ret)))))⟩
def fn102 : Fn := ⟨2, 4, [0, 1, 4, 14], [.r 2],
  .seq (.reg false [⟨none, .mov (.v (.c (.d (.bool false))))⟩] [(2, 0)] []) (
  .seq (.seq (.reg false [⟨none, .mov (.r 1)⟩,
    ⟨none, .len (.l 0)⟩,
    ⟨none, .bin .neq (.l 0) (.v (.c (.d (.int .i64 0))))⟩,
    ⟨none, .mov (.l 0)⟩,
    ⟨some (0, false), .mov (.r 0)⟩,
    ⟨some (1, false), .nlc (.l 0)⟩,
    ⟨some (2, false), .fa 1 (.l 0)⟩,
    ⟨some (3, false), .ld false 1 (.l 0)⟩,
    ⟨some (4, false), .bin .neq (.l 0) (.v (.c (.d (.int .i64 1))))⟩,
    ⟨none, .pick (.l 5) (.v (.c (.d (.bool true)))) (.l 0)⟩] [(3, 0)] []) (
  .cond (.r 3) (
  .seq (.reg false [⟨none, .mov (.v (.c (.d (.bool false))))⟩] [(2, 0)] []) (
  .ret)) (
  .skip))) (
  .seq (.reg false [⟨none, .mov (.r 0)⟩,
    ⟨none, .hc (.v (.c (.d (.fn 135 [] [])))) [(.l 0)]⟩,
    ⟨none, .nlc (.l 0)⟩,
    ⟨none, .fa 1 (.l 0)⟩,
    ⟨none, .st 1 (.l 0) (.v (.c (.d (.bool true))))⟩] [] []) (
  .seq (.reg false [⟨none, .mov (.r 0)⟩,
    ⟨none, .nlc (.l 0)⟩,
    ⟨none, .fa 1 (.l 0)⟩,
    ⟨none, .st 1 (.l 0) (.v (.c (.d (.int .i64 2))))⟩] [] []) (
  .seq (.reg false [⟨none, .mov (.v (.c (.d (.bool true))))⟩] [(2, 0)] []) (
  .ret)))))⟩
def fn103 : Fn := ⟨2, 6, [0, 1, 4, 5, 6, 16], [.r 2],
  .seq (.reg false [⟨none, .mov (.v (.c (.d (.bool false))))⟩] [(2, 0)] []) (
  .seq (.seq (.reg false [⟨none, .mov (.r 1)⟩,
    ⟨none, .len (.l 0)⟩,
    ⟨none, .bin .neq (.l 0) (.v (.c (.d (.int .i64 1))))⟩,
    ⟨none, .mov (.l 0)⟩,
    ⟨some (0, false), .mov (.r 0)⟩,
    ⟨some (1, false), .nlc (.l 0)⟩,
    ⟨some (2, false), .fa 1 (.l 0)⟩,
    ⟨some (3, false), .ld false 1 (.l 0)⟩,
    ⟨some (4, false), .bin .neq (.l 0) (.v (.c (.d (.int .i64 2))))⟩,
    ⟨none, .pick (.l 5) (.v (.c (.d (.bool true)))) (.l 0)⟩] [(5, 0)] []) (
  .cond (.r 5) (
  .seq (.reg false [⟨none, .mov (.v (.c (.d (.bool false))))⟩] [(2, 0)] []) (
  .ret)) (
  .skip))) (
  .seq (.reg false [⟨none, .mov (.r 1)⟩,
    ⟨none, .ixa 1 (.l 0) (.v (.c (.d (.int .i64 0))))⟩,
    ⟨none, .ld false 1 (.l 0)⟩,
    ⟨none, .vc 136 [(.l 0)]⟩,
    ⟨none, .mov (.l 0)⟩,
    ⟨none, .ext (.l 0) 0⟩,
    ⟨none, .ext (.l 1) 1⟩,
    ⟨none, .pre⟩,
    ⟨none, .ini 17 (.l 2)⟩,
    ⟨none, .mov (.l 2)⟩] [(3, 1), (4, 0)] []) (
  .seq (.bad) (
  .seq (.reg false [⟨none, .mov (.r 4)⟩,
    ⟨none, .bin .eql (.l 0) (.v (.c (.d (.int .i64 0))))⟩,
    ⟨none, .mov (.l 0)⟩] [(2, 0)] []) (
  .ret)))))⟩
def fn104 : Fn := ⟨2, 13, [0, 1, 4, 5, 6, 7, 9, 10, 11, 12, 31, 40, 48], [.r 2],
  .seq (.reg false [⟨none, .mov (.v (.c (.d (.bool false))))⟩] [(2, 0)] []) (
  .seq (.seq (.reg false [⟨none, .mov (.r 1)⟩,
    ⟨none, .len (.l 0)⟩,
    ⟨none, .bin .neq (.l 0) (.v (.c (.d (.int .i64 1))))⟩,
    ⟨none, .mov (.l 0)⟩,
    ⟨some (0, false), .mov (.r 0)⟩,
    ⟨some (1, false), .nlc (.l 0)⟩,
    ⟨some (2, false), .fa 1 (.l 0)⟩,
    ⟨some (3, false), .ld false 1 (.l 0)⟩,
    ⟨some (4, false), .bin .neq (.l 0) (.v (.c (.d (.int .i64 2))))⟩,
    ⟨none, .pick (.l 5) (.v (.c (.d (.bool true)))) (.l 0)⟩,
    ⟨none, .mov (.l 0)⟩,
    ⟨some (0, false), .mov (.r 0)⟩,
    ⟨some (1, false), .hc (.v (.c (.d (.fn 135 [] [])))) [(.l 0)]⟩,
    ⟨some (2, false), .nlc (.l 0)⟩,
    ⟨some (3, false), .fa 2 (.l 0)⟩,
    ⟨some (4, false), .ld false 1 (.l 0)⟩,
    ⟨some (5, false), .len (.l 0)⟩,
    ⟨some (6, false), .bin .eql (.l 0) (.v (.c (.d (.int .i64 0))))⟩,
    ⟨none, .pick (.l 7) (.v (.c (.d (.bool true)))) (.l 0)⟩] [(10, 0)] []) (
  .cond (.r 10) (
  .seq (.reg false [⟨none, .mov (.v (.c (.d (.bool false))))⟩] [(2, 0)] []) (
  .ret)) (
  .skip))) (
  .seq (.reg false [⟨none, .mov (.r 1)⟩,
    ⟨none, .ixa 1 (.l 0) (.v (.c (.d (.int .i64 0))))⟩,
    ⟨none, .ld false 1 (.l 0)⟩,
    ⟨none, .vc 137 [(.l 0)]⟩,
    ⟨none, .mov (.l 0)⟩,
    ⟨none, .ext (.l 0) 0⟩,
    ⟨none, .ext (.l 1) 1⟩,
    ⟨none, .mov (.l 1)⟩,
    ⟨none, .mov (.l 1)⟩] [(3, 1), (4, 0)] []) (
  .seq (.seq (.reg false [⟨none, .mov (.r 4)⟩,
    ⟨none, .un .not (.l 0)⟩] [(11, 0)] []) (
  .cond (.r 11) (
  .seq (.reg false [⟨none, .mov (.v (.c (.d (.bool false))))⟩] [(2, 0)] []) (
  .ret)) (
  .skip))) (
  .seq (.reg false [⟨none, .mov (.r 3)⟩,
    ⟨none, .vc 138 [(.l 0)]⟩,
    ⟨none, .mov (.l 0)⟩,
    ⟨none, .ext (.l 0) 0⟩,
    ⟨none, .ext (.l 1) 1⟩,
    ⟨none, .ext (.l 2) 2⟩,
    ⟨none, .pre⟩,
    ⟨none, .ini 5 (.l 3)⟩,
    ⟨none, .mov (.l 3)⟩,
    ⟨none, .mov (.l 3)⟩] [(5, 2), (6, 0)] []) (
  .seq (.seq (.reg false [⟨none, .mov (.r 6)⟩,
    ⟨none, .bin .neq (.l 0) (.v (.c (.d (.int .i64 0))))⟩] [(12, 0)] []) (
  .cond (.r 12) (
  .seq (.reg false [⟨none, .mov (.v (.c (.d (.bool false))))⟩] [(2, 0)] []) (
  .ret)) (
  .skip))) (
  .seq (.reg false [⟨none, .ld true 5 (.r 5)⟩,
    ⟨none, .vc 139 [(.l 0)]⟩,
    ⟨none, .mov (.l 0)⟩,
    ⟨none, .ext (.l 0) 0⟩,
    ⟨none, .ext (.l 1) 1⟩,
    ⟨none, .pre⟩,
    ⟨none, .pre⟩,
    ⟨none, .ini 27 (.l 3)⟩,
    ⟨none, .ini 2 (.l 3)⟩] [(7, 1), (8, 0)] []) (
  .seq (.reg false [⟨none, .mov (.r 0)⟩,
    ⟨none, .hc (.v (.c (.d (.fn 135 [] [])))) [(.l 0)]⟩,
    ⟨none, .nlc (.l 0)⟩,
    ⟨none, .fa 2 (.l 0)⟩,
    ⟨none, .ld false 1 (.l 0)⟩,
    ⟨none, .mov (.l 0)⟩] [(9, 0)] []) (
  .seq (.reg true [⟨none, .mov (.r 9)⟩,
    ⟨none, .mov (.r 9)⟩,
    ⟨none, .len (.l 0)⟩,
    ⟨none, .bin .sub (.l 0) (.v (.c (.d (.int .i64 1))))⟩,
    ⟨none, .mov (.r 9)⟩,
    ⟨none, .mov (.r 9)⟩,
    ⟨none, .len (.l 0)⟩,
    ⟨none, .bin .sub (.l 0) (.v (.c (.d (.int .i64 1))))⟩,
    ⟨none, .ixa 18 (.l 3) (.l 0)⟩,
    ⟨none, .fa 17 (.l 0)⟩,
    ⟨none, .ld false 1 (.l 0)⟩,
    ⟨none, .ld true 27 (.r 7)⟩,
    ⟨none, .bsl 1 27 [.int .u8 0, .str [], .bool false, .int .u32 0, .str [], .nils, .bool false, .int .u32 0, .str [], .int .u8 0, .int .u32 0, .int .u32 0, .int .u32 0, .int .u32 0, .int .u32 0, .int .u32 0, .int .u32 0, .int .u32 0, .int .u32 0, .int .u32 0, .int .u32 0, .int .u32 0, .int .u32 0, .int .u32 0, .int .u32 0, .int .u32 0, .nils] [(0, 27, (.l 0))]⟩,
    ⟨none, .app 27 (.l 2) (.l 0)⟩,
    ⟨none, .ixa 18 (.l 13) (.l 10)⟩,
    ⟨none, .fa 17 (.l 0)⟩,
    ⟨none, .st 1 (.l 0) (.l 2)⟩] [] []) (
  .seq (.reg false [⟨none, .fa 1 (.r 8)⟩,
    ⟨none, .ld false 1 (.l 0)⟩,
    ⟨none, .bin .eql (.l 0) (.v (.c (.d (.int .i64 0))))⟩,
    ⟨none, .mov (.l 0)⟩] [(2, 0)] []) (
  .ret))))))))))⟩
def fn105 : Fn := ⟨2, 4, [0, 1, 4, 21], [.r 2],
  .seq (.reg false [⟨none, .mov (.v (.c (.d (.bool false))))⟩] [(2, 0)] []) (
  .seq (.seq (.reg false [⟨none, .mov (.r 1)⟩,
    ⟨none, .len (.l 0)⟩,
    ⟨none, .bin .neq (.l 0) (.v (.c (.d (.int .i64 0))))⟩,
    ⟨none, .mov (.l 0)⟩,
    ⟨some (0, false), .mov (.r 0)⟩,
    ⟨some (1, false), .nlc (.l 0)⟩,
    ⟨some (2, false), .fa 1 (.l 0)⟩,
    ⟨some (3, false), .ld false 1 (.l 0)⟩,
    ⟨some (4, false), .bin .neq (.l 0) (.v (.c (.d (.int .i64 1))))⟩,
    ⟨some (5, false), .mov (.l 0)⟩,
    ⟨some (0, true), .mov (.r 0)⟩,
    ⟨some (1, true), .nlc (.l 0)⟩,
    ⟨some (2, true), .fa 1 (.l 0)⟩,
    ⟨some (3, true), .ld false 1 (.l 0)⟩,
    ⟨some (4, true), .bin .neq (.l 0) (.v (.c (.d (.int .i64 2))))⟩,
    ⟨some (11, false), .pick (.l 5) (.l 0) (.v (.c (.d (.bool false))))⟩,
    ⟨none, .pick (.l 12) (.v (.c (.d (.bool true)))) (.l 0)⟩] [(3, 0)] []) (
  .cond (.r 3) (
  .seq (.reg false [⟨none, .mov (.v (.c (.d (.bool false))))⟩] [(2, 0)] []) (
  .ret)) (
  .skip))) (
  .seq (.reg false [⟨none, .mov (.r 0)⟩,
    ⟨none, .hc (.v (.c (.d (.fn 135 [] [])))) [(.l 0)]⟩,
    ⟨none, .nlc (.l 0)⟩,
    ⟨none, .fa 3 (.l 0)⟩,
    ⟨none, .st 1 (.l 0) (.v (.c (.d (.bool true))))⟩] [] []) (
  .seq (.reg false [⟨none, .mov (.r 0)⟩,
    ⟨none, .nlc (.l 0)⟩,
    ⟨none, .fa 1 (.l 0)⟩,
    ⟨none, .st 1 (.l 0) (.v (.c (.d (.int .i64 3))))⟩] [] []) (
  .seq (.reg false [⟨none, .mov (.v (.c (.d (.bool true))))⟩] [(2, 0)] []) (
  .ret)))))⟩
def fn106 : Fn := ⟨2, 8, [0, 1, 4, 5, 6, 7, 8, 18], [.r 2],
  .seq (.reg false [⟨none, .mov (.v (.c (.d (.bool false))))⟩] [(2, 0)] []) (
  .seq (.seq (.reg false [⟨none, .mov (.r 1)⟩,
    ⟨none, .len (.l 0)⟩,
    ⟨none, .bin .neq (.l 0) (.v (.c (.d (.int .i64 2))))⟩,
    ⟨none, .mov (.l 0)⟩,
    ⟨some (0, false), .mov (.r 0)⟩,
    ⟨some (1, false), .nlc (.l 0)⟩,
    ⟨some (2, false), .fa 1 (.l 0)⟩,
    ⟨some (3, false), .ld false 1 (.l 0)⟩,
    ⟨some (4, false), .bin .neq (.l 0) (.v (.c (.d (.int .i64 3))))⟩,
    ⟨none, .pick (.l 5) (.v (.c (.d (.bool true)))) (.l 0)⟩] [(7, 0)] []) (
  .cond (.r 7) (
  .seq (.reg false [⟨none, .mov (.v (.c (.d (.bool false))))⟩] [(2, 0)] []) (
  .ret)) (
  .skip))) (
  .seq (.reg false [⟨none, .mov (.r 1)⟩,
    ⟨none, .ixa 1 (.l 0) (.v (.c (.d (.int .i64 0))))⟩,
    ⟨none, .ld false 1 (.l 0)⟩,
    ⟨none, .vc 136 [(.l 0)]⟩,
    ⟨none, .mov (.l 0)⟩,
    ⟨none, .ext (.l 0) 0⟩,
    ⟨none, .ext (.l 1) 1⟩,
    ⟨none, .pre⟩,
    ⟨none, .ini 17 (.l 2)⟩,
    ⟨none, .mov (.l 2)⟩] [(3, 1), (4, 0)] []) (
  .seq (.reg false [⟨none, .mov (.r 1)⟩,
    ⟨none, .ixa 1 (.l 0) (.v (.c (.d (.int .i64 1))))⟩,
    ⟨none, .ld false 1 (.l 0)⟩,
    ⟨none, .vc 136 [(.l 0)]⟩,
    ⟨none, .mov (.l 0)⟩,
    ⟨none, .ext (.l 0) 0⟩,
    ⟨none, .ext (.l 1) 1⟩,
    ⟨none, .pre⟩,
    ⟨none, .ini 17 (.l 2)⟩,
    ⟨none, .mov (.l 2)⟩] [(5, 1), (6, 0)] []) (
  .seq (.bad) (
  .seq (.reg false [⟨none, .mov (.r 4)⟩,
    ⟨none, .bin .eql (.l 0) (.v (.c (.d (.int .i64 0))))⟩,
    ⟨none, .mov (.l 0)⟩,
    ⟨some (0, true), .mov (.r 6)⟩,
    ⟨some (1, true), .bin .eql (.l 0) (.v (.c (.d (.int .i64 0))))⟩,
    ⟨none, .pick (.l 2) (.l 0) (.v (.c (.d (.bool false))))⟩,
    ⟨none, .mov (.l 0)⟩] [(2, 0)] []) (
  .ret))))))⟩
def fn107 : Fn := ⟨2, 3, [0, 1, 4], [.r 2],
  .seq (.reg false [⟨none, .mov (.v (.c (.d (.bool false))))⟩] [(2, 0)] []) (
  .seq (.reg false [⟨none, .mov (.r 0)⟩,
    ⟨none, .mov (.r 1)⟩,
    ⟨none, .mov (.r 0)⟩,
    ⟨none, .hc (.v (.c (.d (.fn 135 [] [])))) [(.l 0)]⟩,
    ⟨none, .nlc (.l 0)⟩,
    ⟨none, .fa 5 (.l 0)⟩,
    ⟨none, .hc (.v (.c (.d (.fn 140 [] [])))) [(.l 5), (.l 4), (.v (.c (.d (.int .i64 4)))), (.l 0)]⟩,
    ⟨none, .mov (.l 0)⟩] [(2, 0)] []) (
  .ret))⟩
def fn108 : Fn := ⟨2, 3, [0, 1, 4], [.r 2],
  .seq (.reg false [⟨none, .mov (.v (.c (.d (.bool false))))⟩] [(2, 0)] []) (
  .seq (.reg false [⟨none, .mov (.r 0)⟩,
    ⟨none, .mov (.r 1)⟩,
    ⟨none, .mov (.r 0)⟩,
    ⟨none, .hc (.v (.c (.d (.fn 135 [] [])))) [(.l 0)]⟩,
    ⟨none, .nlc (.l 0)⟩,
    ⟨none, .fa 6 (.l 0)⟩,
    ⟨none, .hc (.v (.c (.d (.fn 140 [] [])))) [(.l 5), (.l 4), (.v (.c (.d (.int .i64 5)))), (.l 0)]⟩,
    ⟨none, .mov (.l 0)⟩] [(2, 0)] []) (
  .ret))⟩
def fn109 : Fn := ⟨2, 3, [0, 1, 4], [.r 2],
  .seq (.reg false [⟨none, .mov (.v (.c (.d (.bool false))))⟩] [(2, 0)] []) (
  .seq (.reg false [⟨none, .mov (.r 0)⟩,
    ⟨none, .mov (.r 1)⟩,
    ⟨none, .mov (.r 0)⟩,
    ⟨none, .hc (.v (.c (.d (.fn 135 [] [])))) [(.l 0)]⟩,
    ⟨none, .nlc (.l 0)⟩,
    ⟨none, .fa 7 (.l 0)⟩,
    ⟨none, .hc (.v (.c (.d (.fn 140 [] [])))) [(.l 5), (.l 4), (.v (.c (.d (.int .i64 6)))), (.l 0)]⟩,
    ⟨none, .mov (.l 0)⟩] [(2, 0)] []) (
  .ret))⟩
def fn114L0 : I := .seq (.reg false [⟨none, .bin .lss (.r 10) (.r 9)⟩] [(11, 0)] []) (
  .seq (.cond (.r 11) (
  .skip) (
  .exit 0)) (
  .seq (.block 1 (
  .seq (.reg false [⟨none, .mov (.r 10)⟩,
    ⟨none, .ixa 27 (.r 8) (.r 10)⟩,
    ⟨none, .ld true 27 (.l 0)⟩,
    ⟨none, .pre⟩,
    ⟨none, .mov (.l 3)⟩,
    ⟨none, .ini 27 (.l 2)⟩] [(4, 1), (5, 0)] []) (
  .seq (.reg false [⟨none, .mov (.r 1)⟩,
    ⟨none, .mov (.r 4)⟩,
    ⟨none, .ixa 27 (.l 1) (.l 0)⟩,
    ⟨none, .ld true 27 (.l 0)⟩,
    ⟨none, .pre⟩,
    ⟨none, .ini 27 (.l 1)⟩] [(6, 0)] []) (
  .seq (.reg false [⟨none, .mov (.r 2)⟩,
    ⟨none, .ld true 27 (.r 5)⟩,
    ⟨none, .ld true 27 (.r 6)⟩,
    ⟨none, .hc (.l 2) [(.l 1), (.l 0)]⟩,
    ⟨none, .un .not (.l 0)⟩] [(12, 0)] []) (
  .cond (.r 12) (
  .seq (.reg false [⟨none, .mov (.v (.c (.d (.bool false))))⟩] [(3, 0)] []) (
  .ret)) (
  .skip)))))) (
  .reg false [⟨none, .bin .add (.r 10) (.v (.c (.d (.int .i64 1))))⟩,
    ⟨none, .mov (.l 0)⟩] [(10, 0)] [])))
def fn114 : Fn := ⟨3, 13, [0, 1, 2, 6, 7, 8, 9, 14, 15, 16, 17, 18, 30], [.r 3],
  .seq (.reg false [⟨none, .mov (.v (.c (.d (.bool false))))⟩] [(3, 0)] []) (
  .seq (.seq (.reg false [⟨none, .mov (.r 0)⟩,
    ⟨none, .len (.l 0)⟩,
    ⟨none, .mov (.r 1)⟩,
    ⟨none, .len (.l 0)⟩,
    ⟨none, .bin .neq (.l 2) (.l 0)⟩] [(7, 0)] []) (
  .cond (.r 7) (
  .seq (.reg false [⟨none, .mov (.v (.c (.d (.bool false))))⟩] [(3, 0)] []) (
  .ret)) (
  .skip))) (
  .seq (.seq (.reg false [⟨none, .mov (.r 0)⟩,
    ⟨none, .len (.l 0)⟩,
    ⟨none, .mov (.v (.c (.d (.int .i64 0))))⟩] [(8, 2), (9, 1), (10, 0)] []) (
  .block 0 (
  .loop (some [1, 2, 8, 9, 10]) fn114L0))) (
  .seq (.reg false [⟨none, .mov (.v (.c (.d (.bool true))))⟩] [(3, 0)] []) (
  .ret))))⟩
def fn115 : Fn := ⟨2, 5, [0, 1, 2, 3, 4], [.r 4],
  .seq (.reg false [⟨none, .box (.r 0)⟩,
    ⟨none, .box (.r 1)⟩,
    ⟨none, .mov (.v (.c (.d (.bool false))))⟩] [(2, 2), (3, 1), (4, 0)] []) (
  .seq (.reg false [⟨none, .fa 0 (.r 2)⟩,
    ⟨none, .ld false 1 (.l 0)⟩,
    ⟨none, .fa 0 (.r 3)⟩,
    ⟨none, .ld false 1 (.l 0)⟩,
    ⟨none, .bin .eql (.l 2) (.l 0)⟩,
    ⟨none, .mov (.l 0)⟩,
    ⟨some (0, true), .fa 1 (.r 2)⟩,
    ⟨some (1, true), .ld false 1 (.l 0)⟩,
    ⟨some (2, true), .fa 1 (.r 3)⟩,
    ⟨some (3, true), .ld false 1 (.l 0)⟩,
    ⟨some (4, true), .bin .eql (.l 2) (.l 0)⟩,
    ⟨none, .pick (.l 5) (.l 0) (.v (.c (.d (.bool false))))⟩,
    ⟨none, .mov (.l 0)⟩,
    ⟨some (0, true), .fa 2 (.r 2)⟩,
    ⟨some (1, true), .ld false 1 (.l 0)⟩,
    ⟨some (2, true), .fa 2 (.r 3)⟩,
    ⟨some (3, true), .ld false 1 (.l 0)⟩,
    ⟨some (4, true), .beq false (.l 2) (.l 0)⟩,
    ⟨none, .pick (.l 5) (.l 0) (.v (.c (.d (.bool false))))⟩,
    ⟨none, .mov (.l 0)⟩,
    ⟨some (0, true), .fa 3 (.r 2)⟩,
    ⟨some (1, true), .ld true 2 (.l 0)⟩,
    ⟨some (2, true), .fa 3 (.r 3)⟩,
    ⟨some (3, true), .ld true 2 (.l 0)⟩,
    ⟨some (4, true), .eqk false [0, 2] (.l 2) (.l 0)⟩,
    ⟨none, .pick (.l 5) (.l 0) (.v (.c (.d (.bool false))))⟩,
    ⟨none, .mov (.l 0)⟩,
    ⟨some (0, true), .fa 5 (.r 2)⟩,
    ⟨some (1, true), .ld false 1 (.l 0)⟩,
    ⟨some (2, true), .fa 5 (.r 3)⟩,
    ⟨some (3, true), .ld false 1 (.l 0)⟩,
    ⟨some (4, true), .vc 116 [(.l 2), (.l 0)]⟩,
    ⟨none, .pick (.l 5) (.l 0) (.v (.c (.d (.bool false))))⟩,
    ⟨none, .mov (.l 0)⟩,
    ⟨some (0, true), .fa 6 (.r 2)⟩,
    ⟨some (1, true), .ld false 1 (.l 0)⟩,
    ⟨some (2, true), .fa 6 (.r 3)⟩,
    ⟨some (3, true), .ld false 1 (.l 0)⟩,
    ⟨some (4, true), .beq false (.l 2) (.l 0)⟩,
    ⟨none, .pick (.l 5) (.l 0) (.v (.c (.d (.bool false))))⟩,
    ⟨none, .mov (.l 0)⟩,
    ⟨some (0, true), .fa 7 (.r 2)⟩,
    ⟨some (1, true), .ld true 2 (.l 0)⟩,
    ⟨some (2, true), .fa 7 (.r 3)⟩,
    ⟨some (3, true), .ld true 2 (.l 0)⟩,
    ⟨some (4, true), .eqk false [0, 2] (.l 2) (.l 0)⟩,
    ⟨none, .pick (.l 5) (.l 0) (.v (.c (.d (.bool false))))⟩,
    ⟨none, .mov (.l 0)⟩,
    ⟨some (0, true), .fa 9 (.r 2)⟩,
    ⟨some (1, true), .ld true 17 (.l 0)⟩,
    ⟨some (2, true), .fa 9 (.r 3)⟩,
    ⟨some (3, true), .ld true 17 (.l 0)⟩,
    ⟨some (4, true), .eqa false 17 (.l 2) (.l 0)⟩,
    ⟨none, .pick (.l 5) (.l 0) (.v (.c (.d (.bool false))))⟩,
    ⟨none, .mov (.l 0)⟩,
    ⟨some (0, true), .fa 26 (.r 2)⟩,
    ⟨some (1, true), .ld false 1 (.l 0)⟩,
    ⟨some (2, true), .fa 26 (.r 3)⟩,
    ⟨some (3, true), .ld false 1 (.l 0)⟩,
    ⟨some (4, true), .vc 117 [(.l 2), (.l 0)]⟩,
    ⟨none, .pick (.l 5) (.l 0) (.v (.c (.d (.bool false))))⟩,
    ⟨none, .mov (.l 0)⟩] [(4, 0)] []) (
  .ret))⟩
def fn116L0 : I := .seq (.reg false [⟨none, .bin .lss (.r 6) (.r 5)⟩] [(7, 0)] []) (
  .seq (.cond (.r 7) (
  .skip) (
  .exit 0)) (
  .seq (.block 1 (
  .seq (.reg false [⟨none, .mov (.r 6)⟩,
    ⟨none, .mov (.l 0)⟩] [(3, 0)] []) (
  .seq (.reg true [⟨none, .mov (.r 0)⟩,
    ⟨none, .mov (.r 3)⟩,
    ⟨none, .ixa 1 (.l 1) (.l 0)⟩,
    ⟨none, .ld false 1 (.l 0)⟩,
    ⟨none, .mov (.r 1)⟩,
    ⟨none, .mov (.r 3)⟩,
    ⟨none, .ixa 1 (.l 1) (.l 0)⟩,
    ⟨none, .ld false 1 (.l 0)⟩,
    ⟨none, .bin .neq (.l 4) (.l 0)⟩] [(8, 0)] []) (
  .cond (.r 8) (
  .seq (.reg false [⟨none, .mov (.v (.c (.d (.bool false))))⟩] [(2, 0)] []) (
  .ret)) (
  .skip))))) (
  .reg false [⟨none, .bin .add (.r 6) (.v (.c (.d (.int .i64 1))))⟩,
    ⟨none, .mov (.l 0)⟩] [(6, 0)] [])))
def fn116 : Fn := ⟨2, 9, [0, 1, 4, 5, 10, 12, 13, 14, 24], [.r 2],
  .seq (.reg false [⟨none, .mov (.v (.c (.d (.bool false))))⟩] [(2, 0)] []) (
  .seq (.seq (.reg false [⟨none, .mov (.r 0)⟩,
    ⟨none, .len (.l 0)⟩,
    ⟨none, .mov (.r 1)⟩,
    ⟨none, .len (.l 0)⟩,
    ⟨none, .bin .neq (.l 2) (.l 0)⟩] [(4, 0)] []) (
  .cond (.r 4) (
  .seq (.reg false [⟨none, .mov (.v (.c (.d (.bool false))))⟩] [(2, 0)] []) (
  .ret)) (
  .skip))) (
  .seq (.seq (.reg false [⟨none, .mov (.r 0)⟩,
    ⟨none, .len (.l 0)⟩,
    ⟨none, .mov (.v (.c (.d (.int .i64 0))))⟩] [(5, 1), (6, 0)] []) (
  .block 0 (
  .loop (some [0, 1, 5, 6]) fn116L0))) (
  .seq (.reg false [⟨none, .mov (.v (.c (.d (.bool true))))⟩] [(2, 0)] []) (
  .ret))))⟩
def fn117 : Fn := ⟨2, 3, [0, 1, 4], [.r 2],
  .seq (.reg false [⟨none, .mov (.v (.c (.d (.bool false))))⟩] [(2, 0)] []) (
  .seq (.reg false [⟨none, .mov (.r 0)⟩,
    ⟨none, .b2s (.l 0)⟩,
    ⟨none, .mov (.r 1)⟩,
    ⟨none, .b2s (.l 0)⟩,
    ⟨none, .bin .eql (.l 2) (.l 0)⟩,
    ⟨none, .mov (.l 0)⟩] [(2, 0)] []) (
  .ret))⟩
def fn121 : Fn := ⟨1, 20, [0, 1, 2, 3, 4, 5, 6, 7, 8, 9, 11, 12, 13, 14, 22, 34, 41, 49, 65, 81], [.cell 2 5 true, .r 3, .r 4],
  .seq (.reg false [⟨none, .box (.r 0)⟩,
    ⟨none, .new [.int .u8 0, .bool false, .int .u32 0, .nils, .nils]⟩,
    ⟨none, .mov (.v (.c (.d (.nils))))⟩,
    ⟨none, .mov (.v (.c (.d (.int .i64 0))))⟩] [(1, 3), (2, 2), (3, 1), (4, 0)] []) (
  .seq (.seq (.reg false [⟨none, .fa 0 (.r 1)⟩,
    ⟨none, .ld false 1 (.l 0)⟩,
    ⟨none, .bin .lss (.l 0) (.v (.c (.d (.int .u8 1))))⟩,
    ⟨none, .mov (.l 0)⟩,
    ⟨some (0, false), .fa 0 (.r 1)⟩,
    ⟨some (1, false), .ld false 1 (.l 0)⟩,
    ⟨some (2, false), .bin .gtr (.l 0) (.v (.c (.d (.int .u8 3))))⟩,
    ⟨none, .pick (.l 3) (.v (.c (.d (.bool true)))) (.l 0)⟩] [(14, 0)] []) (
  .cond (.r 14) (
  .seq (.reg false [⟨none, .bld [.int .u8 0, .bool false, .int .u32 0, .nils, .nils] []⟩,
    ⟨none, .st 5 (.r 2) (.l 0)⟩,
    ⟨none, .mov (.v (.c (.d (.nils))))⟩,
    ⟨none, .mov (.v (.c (.d (.int .i64 1))))⟩] [(3, 1), (4, 0)] []) (
  .ret)) (
  .skip))) (
  .seq (.reg true [⟨none, .vc 151 []⟩,
    ⟨none, .fa 0 (.r 1)⟩,
    ⟨none, .ld false 1 (.l 0)⟩,
    ⟨none, .ixg true 4 3 (.l 2) (.l 0)⟩,
    ⟨none, .pre⟩,
    ⟨none, .ini 3 (.l 1)⟩] [(5, 0)] []) (
  .seq (.reg false [⟨none, .ld true 27 (.r 1)⟩,
    ⟨none, .pre⟩,
    ⟨none, .ini 27 (.l 1)⟩] [(6, 0)] []) (
  .seq (.reg false [⟨none, .fa 0 (.r 5)⟩,
    ⟨none, .ld false 1 (.l 0)⟩,
    ⟨none, .hc (.l 0) [(.r 6)]⟩] [] []) (
  .seq (.seq (.reg false [⟨none, .ld true 27 (.r 6)⟩,
    ⟨none, .vc 152 [(.l 0)]⟩,
    ⟨none, .un .not (.l 0)⟩] [(15, 0)] []) (
  .cond (.r 15) (
  .seq (.reg false [⟨none, .bld [.int .u8 0, .bool false, .int .u32 0, .nils, .nils] []⟩,
    ⟨none, .st 5 (.r 2) (.l 0)⟩,
    ⟨none, .mov (.v (.c (.d (.nils))))⟩,
    ⟨none, .mov (.v (.c (.d (.int .i64 1))))⟩] [(3, 1), (4, 0)] []) (
  .ret)) (
  .skip))) (
  .seq (.seq (.reg false [⟨none, .fa 1 (.r 5)⟩,
    ⟨none, .ld false 1 (.l 0)⟩,
    ⟨none, .ld true 27 (.r 1)⟩,
    ⟨none, .hc (.l 1) [(.l 0)]⟩,
    ⟨none, .mov (.l 0)⟩] [(7, 0)] []) (
  .seq (.reg false [⟨none, .mov (.r 7)⟩,
    ⟨none, .bin .neq (.l 0) (.v (.c (.d (.int .i64 0))))⟩] [(16, 0)] []) (
  .cond (.r 16) (
  .seq (.reg false [⟨none, .bld [.int .u8 0, .bool false, .int .u32 0, .nils, .nils] []⟩,
    ⟨none, .mov (.r 7)⟩,
    ⟨none, .st 5 (.r 2) (.l 1)⟩,
    ⟨none, .mov (.v (.c (.d (.nils))))⟩,
    ⟨none, .mov (.l 2)⟩] [(3, 1), (4, 0)] []) (
  .ret)) (
  .skip)))) (
  .seq (.reg false [⟨none, .fa 0 (.r 1)⟩,
    ⟨none, .ld false 1 (.l 0)⟩,
    ⟨none, .vc 153 [(.l 0)]⟩,
    ⟨none, .pre⟩,
    ⟨none, .ini 17 (.l 1)⟩] [(8, 0)] []) (
  .seq (.seq (.reg false [⟨none, .fa 0 (.r 1)⟩,
    ⟨none, .ld false 1 (.l 0)⟩,
    ⟨none, .bin .eql (.l 0) (.v (.c (.d (.int .u8 3))))⟩] [(17, 0)] []) (
  .cond (.r 17) (
  .reg false [⟨none, .fa 9 (.r 1)⟩,
    ⟨none, .ld true 17 (.l 0)⟩,
    ⟨none, .st 17 (.r 8) (.l 0)⟩] [] []) (
  .skip))) (
  .seq (.reg false [⟨none, .ld true 17 (.r 8)⟩,
    ⟨none, .vc 154 [(.l 0)]⟩,
    ⟨none, .mov (.l 0)⟩,
    ⟨none, .ext (.l 0) 0⟩,
    ⟨none, .ext (.l 1) 1⟩,
    ⟨none, .mov (.l 1)⟩,
    ⟨none, .mov (.l 1)⟩] [(9, 1)] []) (
  .seq (.reg false [⟨none, .fa 2 (.r 5)⟩,
    ⟨none, .ld false 1 (.l 0)⟩,
    ⟨none, .ld true 27 (.r 1)⟩,
    ⟨none, .hc (.l 1) [(.l 0)]⟩,
    ⟨none, .mov (.l 0)⟩,
    ⟨none, .ext (.l 0) 0⟩,
    ⟨none, .ext (.l 1) 1⟩,
    ⟨none, .pre⟩,
    ⟨none, .ini 5 (.l 2)⟩,
    ⟨none, .mov (.l 2)⟩] [(10, 1), (11, 0)] []) (
  .seq (.seq (.reg false [⟨none, .mov (.r 11)⟩,
    ⟨none, .bin .neq (.l 0) (.v (.c (.d (.int .i64 0))))⟩] [(18, 0)] []) (
  .cond (.r 18) (
  .seq (.reg false [⟨none, .bld [.int .u8 0, .bool false, .int .u32 0, .nils, .nils] []⟩,
    ⟨none, .mov (.r 11)⟩,
    ⟨none, .st 5 (.r 2) (.l 1)⟩,
    ⟨none, .mov (.v (.c (.d (.nils))))⟩,
    ⟨none, .mov (.l 2)⟩] [(3, 1), (4, 0)] []) (
  .ret)) (
  .skip))) (
  .seq (.reg false [⟨none, .ld true 3 (.g 0)⟩,
    ⟨none, .ld true 3 (.g 1)⟩,
    ⟨none, .mov (.r 9)⟩,
    ⟨none, .bld [.int .u8 0, .bool false, .int .u32 0, .nils, .nils] [(0, 3, (.l 1)), (3, 1, (.l 0))]⟩,
    ⟨none, .ld true 5 (.r 10)⟩,
    ⟨none, .bsl 2 5 [.int .u8 0, .bool false, .int .u32 0, .nils, .nils] [(0, 5, (.l 1)), (5, 5, (.l 0))]⟩,
    ⟨none, .bld [.int .u8 0, .bool false, .int .u32 0, .nils, .nils] [(0, 3, (.l 5)), (4, 1, (.l 0))]⟩,
    ⟨none, .pre⟩,
    ⟨none, .ini 5 (.l 1)⟩] [(12, 0)] []) (
  .seq (.reg false [⟨none, .ld true 5 (.r 12)⟩,
    ⟨none, .vc 90 [(.l 0)]⟩,
    ⟨none, .mov (.l 0)⟩,
    ⟨none, .ext (.l 0) 0⟩,
    ⟨none, .ext (.l 1) 1⟩,
    ⟨none, .mov (.l 1)⟩,
    ⟨none, .mov (.l 1)⟩] [(13, 1), (11, 0)] []) (
  .seq (.seq (.reg false [⟨none, .mov (.r 11)⟩,
    ⟨none, .bin .neq (.l 0) (.v (.c (.d (.int .i64 0))))⟩] [(19, 0)] []) (
  .cond (.r 19) (
  .seq (.reg false [⟨none, .bld [.int .u8 0, .bool false, .int .u32 0, .nils, .nils] []⟩,
    ⟨none, .mov (.r 11)⟩,
    ⟨none, .st 5 (.r 2) (.l 1)⟩,
    ⟨none, .mov (.v (.c (.d (.nils))))⟩,
    ⟨none, .mov (.l 2)⟩] [(3, 1), (4, 0)] []) (
  .ret)) (
  .skip))) (
  .seq (.reg false [⟨none, .ld true 5 (.r 12)⟩,
    ⟨none, .mov (.r 13)⟩,
    ⟨none, .st 5 (.r 2) (.l 1)⟩,
    ⟨none, .mov (.l 1)⟩,
    ⟨none, .mov (.v (.c (.d (.int .i64 0))))⟩] [(3, 1), (4, 0)] []) (
  .ret))))))))))))))))⟩
def fn123 : Fn := ⟨1, 2, [0, 2], [.r 1],
  .seq (.reg false [⟨none, .mov (.v (.c (.d (.nils))))⟩] [(1, 0)] []) (
  .seq (.reg true [⟨none, .mov (.r 0)⟩,
    ⟨none, .nlc (.l 0)⟩,
    ⟨none, .fa 1 (.l 0)⟩,
    ⟨none, .mov (.r 0)⟩,
    ⟨none, .nlc (.l 0)⟩,
    ⟨none, .fa 0 (.l 0)⟩,
    ⟨none, .ld false 1 (.l 0)⟩,
    ⟨none, .cvi .i64 (.l 0)⟩,
    ⟨none, .mm false (.l 0) (.v (.c (.d (.int .i64 16))))⟩,
    ⟨none, .slp 16 1 (.l 6) none (some (.l 0)) none⟩,
    ⟨none, .mov (.l 0)⟩] [(1, 0)] []) (
  .ret))⟩
def fn124 : Fn := ⟨2, 3, [0, 1, 4], [.r 2],
  .seq (.reg false [⟨none, .mov (.v (.c (.d (.str []))))⟩] [(2, 0)] []) (
  .seq (.reg false [⟨none, .mov (.r 0)⟩,
    ⟨none, .mov (.r 1)⟩,
    ⟨none, .vc 156 [(.l 1), (.l 0)]⟩,
    ⟨none, .mov (.l 0)⟩] [(2, 0)] []) (
  .ret))⟩
def fn126 : Fn := ⟨1, 4, [0, 1, 2, 3], [.r 2],
  .seq (.reg false [⟨none, .box (.r 0)⟩,
    ⟨none, .mov (.v (.c (.d (.int .i64 0))))⟩] [(1, 1), (2, 0)] []) (
  .seq (.reg false [⟨none, .ld true 5 (.r 1)⟩,
    ⟨none, .vc 158 [(.l 0)]⟩,
    ⟨none, .mov (.l 0)⟩,
    ⟨none, .ext (.l 0) 0⟩,
    ⟨none, .ext (.l 1) 1⟩,
    ⟨none, .ext (.l 2) 2⟩,
    ⟨none, .mov (.l 2)⟩,
    ⟨none, .mov (.l 2)⟩,
    ⟨none, .mov (.l 2)⟩] [(3, 2)] []) (
  .seq (.reg false [⟨none, .mov (.r 3)⟩,
    ⟨none, .mov (.l 0)⟩] [(2, 0)] []) (
  .ret)))⟩
def fn127 : Fn := ⟨1, 5, [0, 1, 2, 3, 7], [.r 2],
  .seq (.reg false [⟨none, .box (.r 0)⟩,
    ⟨none, .mov (.v (.c (.d (.int .i64 0))))⟩] [(1, 1), (2, 0)] []) (
  .seq (.reg false [⟨none, .ld true 5 (.r 1)⟩,
    ⟨none, .vc 159 [(.l 0)]⟩,
    ⟨none, .mov (.l 0)⟩] [(3, 0)] []) (
  .seq (.seq (.reg false [⟨none, .mov (.r 3)⟩,
    ⟨none, .bin .gtr (.l 0) (.v (.c (.d (.int .i64 1048576))))⟩] [(4, 0)] []) (
  .cond (.r 4) (
  .seq (.reg false [⟨none, .mov (.r 3)⟩,
    ⟨none, .mov (.l 0)⟩] [(2, 0)] []) (
  .ret)) (
  .skip))) (
  .seq (.reg false [⟨none, .fa 0 (.r 1)⟩,
    ⟨none, .ld true 3 (.l 0)⟩,
    ⟨none, .vc 161 [(.l 0)]⟩,
    ⟨none, .mov (.r 3)⟩,
    ⟨none, .vc 160 [(.l 1), (.l 0)]⟩,
    ⟨none, .mov (.l 0)⟩] [(2, 0)] []) (
  .ret))))⟩
def fn128L0 : I := .seq (.reg false [⟨none, .bin .lss (.r 9) (.r 8)⟩] [(10, 0)] []) (
  .seq (.cond (.r 10) (
  .skip) (
  .exit 0)) (
  .seq (.block 1 (
  .seq (.reg false [⟨none, .ixa 5 (.r 7) (.r 9)⟩,
    ⟨none, .ld true 5 (.l 0)⟩,
    ⟨none, .pre⟩,
    ⟨none, .ini 5 (.l 1)⟩] [(6, 0)] []) (
  .reg false [⟨none, .mov (.r 0)⟩,
    ⟨none, .ld true 5 (.r 6)⟩,
    ⟨none, .hc (.v (.c (.d (.fn 128 [] [])))) [(.l 1), (.l 0)]⟩,
    ⟨none, .mov (.l 0)⟩] [(0, 0)] []))) (
  .reg false [⟨none, .bin .add (.r 9) (.v (.c (.d (.int .i64 1))))⟩,
    ⟨none, .mov (.l 0)⟩] [(9, 0)] [])))
def fn128 : Fn := ⟨2, 11, [0, 1, 3, 4, 5, 7, 10, 33, 34, 35, 36], [.r 3],
  .seq (.reg false [⟨none, .box (.r 1)⟩,
    ⟨none, .mov (.v (.c (.d (.nils))))⟩] [(2, 1), (3, 0)] []) (
  .seq (.reg false [⟨none, .fa 0 (.r 2)⟩,
    ⟨none, .ld true 3 (.l 0)⟩,
    ⟨none, .vc 162 [(.l 0)]⟩,
    ⟨none, .mov (.l 0)⟩,
    ⟨none, .ext (.l 0) 0⟩,
    ⟨none, .ext (.l 1) 1⟩,
    ⟨none, .mov (.l 1)⟩,
    ⟨none, .mov (.l 1)⟩] [(4, 1)] []) (
  .seq (.reg false [⟨none, .ld true 5 (.r 2)⟩,
    ⟨none, .vc 159 [(.l 0)]⟩,
    ⟨none, .vc 163 [(.l 0)]⟩,
    ⟨none, .mov (.l 0)⟩,
    ⟨none, .ext (.l 0) 0⟩,
    ⟨none, .ext (.l 1) 1⟩,
    ⟨none, .mov (.l 1)⟩,
    ⟨none, .mov (.l 1)⟩] [(5, 1)] []) (
  .seq (.reg false [⟨none, .mov (.r 0)⟩,
    ⟨none, .mov (.r 4)⟩,
    ⟨none, .app 1 (.l 1) (.l 0)⟩,
    ⟨none, .mov (.r 5)⟩,
    ⟨none, .app 1 (.l 1) (.l 0)⟩,
    ⟨none, .mov (.l 0)⟩] [(0, 0)] []) (
  .seq (.reg false [⟨none, .mov (.r 0)⟩,
    ⟨none, .fa 3 (.r 2)⟩,
    ⟨none, .ld false 1 (.l 0)⟩,
    ⟨none, .app 1 (.l 2) (.l 0)⟩,
    ⟨none, .mov (.l 0)⟩] [(0, 0)] []) (
  .seq (.seq (.reg false [⟨none, .fa 4 (.r 2)⟩,
    ⟨none, .ld false 1 (.l 0)⟩,
    ⟨none, .len (.l 0)⟩,
    ⟨none, .mov (.v (.c (.d (.int .i64 0))))⟩] [(7, 2), (8, 1), (9, 0)] []) (
  .block 0 (
  .loop (some [0, 7, 8, 9]) fn128L0))) (
  .seq (.reg false [⟨none, .mov (.r 0)⟩,
    ⟨none, .mov (.l 0)⟩] [(3, 0)] []) (
  .ret)))))))⟩
def fn130L0 : I := .block 1 (
  .seq (.reg false [⟨none, .mov (.r 2)⟩,
    ⟨none, .mov (.r 1)⟩,
    ⟨none, .bin .sub (.l 1) (.l 0)⟩,
    ⟨none, .mov (.l 0)⟩] [(7, 0)] []) (
  .seq (.seq (.reg false [⟨none, .mov (.r 7)⟩,
    ⟨none, .bin .leq (.l 0) (.v (.c (.d (.int .i64 12))))⟩] [(16, 0)] []) (
  .cond (.r 16) (
  .seq (.reg false [⟨none, .mov (.r 0)⟩,
    ⟨none, .mov (.r 1)⟩,
    ⟨none, .mov (.r 2)⟩,
    ⟨none, .mov (.r 4)⟩,
    ⟨none, .hc (.v (.c (.d (.fn 165 [] [])))) [(.l 3), (.l 2), (.l 1), (.l 0)]⟩] [] []) (
  .ret)) (
  .skip))) (
  .seq (.seq (.reg false [⟨none, .mov (.r 3)⟩,
    ⟨none, .bin .eql (.l 0) (.v (.c (.d (.int .i64 0))))⟩] [(17, 0)] []) (
  .cond (.r 17) (
  .seq (.reg false [⟨none, .mov (.r 0)⟩,
    ⟨none, .mov (.r 1)⟩,
    ⟨none, .mov (.r 2)⟩,
    ⟨none, .mov (.r 4)⟩,
    ⟨none, .hc (.v (.c (.d (.fn 166 [] [])))) [(.l 3), (.l 2), (.l 1), (.l 0)]⟩] [] []) (
  .ret)) (
  .skip))) (
  .seq (.seq (.reg false [⟨none, .mov (.r 5)⟩,
    ⟨none, .un .not (.l 0)⟩] [(18, 0)] []) (
  .cond (.r 18) (
  .seq (.reg false [⟨none, .mov (.r 0)⟩,
    ⟨none, .mov (.r 1)⟩,
    ⟨none, .mov (.r 2)⟩,
    ⟨none, .mov (.r 4)⟩,
    ⟨none, .hc (.v (.c (.d (.fn 167 [] [])))) [(.l 3), (.l 2), (.l 1), (.l 0)]⟩] [] []) (
  .reg false [⟨none, .mov (.r 3)⟩,
    ⟨none, .bin .sub (.l 0) (.v (.c (.d (.int .i64 1))))⟩,
    ⟨none, .mov (.l 0)⟩] [(3, 0)] [])) (
  .skip))) (
  .seq (.reg false [⟨none, .mov (.r 0)⟩,
    ⟨none, .mov (.r 1)⟩,
    ⟨none, .mov (.r 2)⟩,
    ⟨none, .mov (.r 4)⟩,
    ⟨none, .hc (.v (.c (.d (.fn 168 [] [])))) [(.l 3), (.l 2), (.l 1), (.l 0)]⟩,
    ⟨none, .mov (.l 0)⟩,
    ⟨none, .ext (.l 0) 0⟩,
    ⟨none, .ext (.l 1) 1⟩,
    ⟨none, .mov (.l 1)⟩,
    ⟨none, .mov (.l 1)⟩] [(8, 1), (9, 0)] []) (
  .seq (.seq (.reg false [⟨none, .mov (.r 9)⟩,
    ⟨none, .bin .eql (.l 0) (.v (.c (.d (.int .i64 2))))⟩] [(19, 0)] []) (
  .cond (.r 19) (
  .seq (.reg false [⟨none, .mov (.r 0)⟩,
    ⟨none, .mov (.r 1)⟩,
    ⟨none, .mov (.r 2)⟩,
    ⟨none, .mov (.r 4)⟩,
    ⟨none, .hc (.v (.c (.d (.fn 169 [] [])))) [(.l 3), (.l 2), (.l 1), (.l 0)]⟩] [] []) (
  .seq (.reg false [⟨none, .mov (.r 2)⟩,
    ⟨none, .bin .sub (.l 0) (.v (.c (.d (.int .i64 1))))⟩,
    ⟨none, .mov (.r 8)⟩,
    ⟨none, .mov (.r 1)⟩,
    ⟨none, .bin .sub (.l 1) (.l 0)⟩,
    ⟨none, .bin .sub (.l 3) (.l 0)⟩,
    ⟨none, .mov (.l 0)⟩] [(8, 0)] []) (
  .reg false [⟨none, .mov (.v (.c (.d (.int .i64 1))))⟩] [(9, 0)] []))) (
  .skip))) (
  .seq (.seq (.reg false [⟨none, .mov (.r 5)⟩,
    ⟨none, .mov (.l 0)⟩,
    ⟨some (0, true), .mov (.r 6)⟩,
    ⟨none, .pick (.l 1) (.l 0) (.v (.c (.d (.bool false))))⟩,
    ⟨none, .mov (.l 0)⟩,
    ⟨some (0, true), .mov (.r 9)⟩,
    ⟨some (1, true), .bin .eql (.l 0) (.v (.c (.d (.int .i64 1))))⟩,
    ⟨none, .pick (.l 2) (.l 0) (.v (.c (.d (.bool false))))⟩] [(20, 0)] []) (
  .cond (.r 20) (
  .seq (.reg false [⟨none, .mov (.r 0)⟩,
    ⟨none, .mov (.r 1)⟩,
    ⟨none, .mov (.r 2)⟩,
    ⟨none, .mov (.r 4)⟩,
    ⟨none, .hc (.v (.c (.d (.fn 170 [] [])))) [(.l 3), (.l 2), (.l 1), (.l 0)]⟩] [(21, 0)] []) (
  .cond (.r 21) (
  .ret) (
  .skip))) (
  .skip))) (
  .seq (.seq (.reg true [⟨none, .mov (.r 1)⟩,
    ⟨none, .bin .gtr (.l 0) (.v (.c (.d (.int .i64 0))))⟩,
    ⟨none, .mov (.l 0)⟩,
    ⟨some (0, true), .mov (.r 4)⟩,
    ⟨some (1, true), .mov (.r 0)⟩,
    ⟨some (2, true), .mov (.r 1)⟩,
    ⟨some (3, true), .bin .sub (.l 0) (.v (.c (.d (.int .i64 1))))⟩,
    ⟨some (4, true), .ixa 17 (.l 2) (.l 0)⟩,
    ⟨some (5, true), .ld true 17 (.l 0)⟩,
    ⟨some (6, true), .mov (.r 0)⟩,
    ⟨some (7, true), .mov (.r 8)⟩,
    ⟨some (8, true), .ixa 17 (.l 1) (.l 0)⟩,
    ⟨some (9, true), .ld true 17 (.l 0)⟩,
    ⟨some (10, true), .hc (.l 9) [(.l 4), (.l 0)]⟩,
    ⟨some (11, true), .bin .lss (.l 0) (.v (.c (.d (.int .i64 0))))⟩,
    ⟨some (12, true), .un .not (.l 0)⟩,
    ⟨none, .pick (.l 13) (.l 0) (.v (.c (.d (.bool false))))⟩] [(22, 0)] []) (
  .cond (.r 22) (
  .seq (.reg false [⟨none, .mov (.r 0)⟩,
    ⟨none, .mov (.r 1)⟩,
    ⟨none, .mov (.r 2)⟩,
    ⟨none, .mov (.r 8)⟩,
    ⟨none, .mov (.r 4)⟩,
    ⟨none, .hc (.v (.c (.d (.fn 171 [] [])))) [(.l 4), (.l 3), (.l 2), (.l 1), (.l 0)]⟩,
    ⟨none, .mov (.l 0)⟩] [(10, 0)] []) (
  .seq (.reg false [⟨none, .mov (.r 10)⟩,
    ⟨none, .mov (.l 0)⟩] [(1, 0)] []) (
  .exit 1))) (
  .skip))) (
  .seq (.reg false [⟨none, .mov (.r 0)⟩,
    ⟨none, .mov (.r 1)⟩,
    ⟨none, .mov (.r 2)⟩,
    ⟨none, .mov (.r 8)⟩,
    ⟨none, .mov (.r 4)⟩,
    ⟨none, .hc (.v (.c (.d (.fn 172 [] [])))) [(.l 4), (.l 3), (.l 2), (.l 1), (.l 0)]⟩,
    ⟨none, .mov (.l 0)⟩,
    ⟨none, .ext (.l 0) 0⟩,
    ⟨none, .ext (.l 1) 1⟩,
    ⟨none, .mov (.l 1)⟩,
    ⟨none, .mov (.l 1)⟩] [(11, 1), (12, 0)] []) (
  .seq (.reg false [⟨none, .mov (.r 12)⟩,
    ⟨none, .mov (.l 0)⟩] [(6, 0)] []) (
  .seq (.reg false [⟨none, .mov (.r 11)⟩,
    ⟨none, .mov (.r 1)⟩,
    ⟨none, .bin .sub (.l 1) (.l 0)⟩,
    ⟨none, .mov (.r 2)⟩,
    ⟨none, .mov (.r 11)⟩,
    ⟨none, .bin .sub (.l 1) (.l 0)⟩,
    ⟨none, .mov (.l 3)⟩,
    ⟨none, .mov (.l 1)⟩] [(13, 1), (14, 0)] []) (
  .seq (.reg false [⟨none, .mov (.r 7)⟩,
    ⟨none, .bin .quo (.l 0) (.v (.c (.d (.int .i64 8))))⟩,
    ⟨none, .mov (.l 0)⟩] [(15, 0)] []) (
  .seq (.reg false [⟨none, .mov (.r 13)⟩,
    ⟨none, .mov (.r 14)⟩,
    ⟨none, .bin .lss (.l 1) (.l 0)⟩] [(23, 0)] []) (
  .cond (.r 23) (
  .seq (.reg false [⟨none, .mov (.r 13)⟩,
    ⟨none, .mov (.r 15)⟩,
    ⟨none, .bin .geq (.l 1) (.l 0)⟩,
    ⟨none, .mov (.l 0)⟩] [(5, 0)] []) (
  .seq (.reg false [⟨none, .mov (.r 0)⟩,
    ⟨none, .mov (.r 1)⟩,
    ⟨none, .mov (.r 11)⟩,
    ⟨none, .mov (.r 3)⟩,
    ⟨none, .mov (.r 4)⟩,
    ⟨none, .hc (.v (.c (.d (.fn 130 [] [])))) [(.l 4), (.l 3), (.l 2), (.l 1), (.l 0)]⟩] [] []) (
  .reg false [⟨none, .mov (.r 11)⟩,
    ⟨none, .bin .add (.l 0) (.v (.c (.d (.int .i64 1))))⟩,
    ⟨none, .mov (.l 0)⟩] [(1, 0)] []))) (
  .seq (.reg false [⟨none, .mov (.r 14)⟩,
    ⟨none, .mov (.r 15)⟩,
    ⟨none, .bin .geq (.l 1) (.l 0)⟩,
    ⟨none, .mov (.l 0)⟩] [(5, 0)] []) (
  .seq (.reg false [⟨none, .mov (.r 0)⟩,
    ⟨none, .mov (.r 11)⟩,
    ⟨none, .bin .add (.l 0) (.v (.c (.d (.int .i64 1))))⟩,
    ⟨none, .mov (.r 2)⟩,
    ⟨none, .mov (.r 3)⟩,
    ⟨none, .mov (.r 4)⟩,
    ⟨none, .hc (.v (.c (.d (.fn 130 [] [])))) [(.l 5), (.l 3), (.l 2), (.l 1), (.l 0)]⟩] [] []) (
  .reg false [⟨none, .mov (.r 11)⟩,
    ⟨none, .mov (.l 0)⟩] [(2, 0)] [])))))))))))))))))
def fn130 : Fn := ⟨5, 24, [0, 1, 2, 3, 4, 10, 11, 12, 13, 14, 15, 16, 17, 18, 19, 20, 25, 32, 39, 56, 75, 80, 97, 125], [],
  .seq (.reg false [⟨none, .mov (.v (.c (.d (.bool true))))⟩] [(5, 0)] []) (
  .seq (.reg false [⟨none, .mov (.v (.c (.d (.bool true))))⟩] [(6, 0)] []) (
  .block 0 (
  .loop (some [0, 1, 2, 3, 4, 5, 6]) fn130L0)))⟩
def fn131 : Fn := ⟨1, 2, [0, 2], [.r 1],
  .seq (.reg false [⟨none, .mov (.v (.c (.d (.int .i64 0))))⟩] [(1, 0)] []) (
  .seq (.cond (.v (.c (.d (.bool false)))) (
  .seq (.reg false [⟨none, .mov (.r 0)⟩,
    ⟨none, .cvi .u32 (.l 0)⟩,
    ⟨none, .vc 173 [(.l 0)]⟩,
    ⟨none, .mov (.l 0)⟩] [(1, 0)] []) (
  .ret)) (
  .skip)) (
  .seq (.reg false [⟨none, .mov (.r 0)⟩,
    ⟨none, .vc 174 [(.l 0)]⟩,
    ⟨none, .mov (.l 0)⟩] [(1, 0)] []) (
  .ret)))⟩
def fn132L0 : I := .seq (.reg false [⟨none, .bin .lss (.r 9) (.r 8)⟩] [(10, 0)] []) (
  .seq (.cond (.r 10) (
  .skip) (
  .exit 0)) (
  .seq (.block 1 (
  .seq (.reg false [⟨none, .mov (.r 9)⟩,
    ⟨none, .ixa 1 (.r 7) (.r 9)⟩,
    ⟨none, .ld false 1 (.l 0)⟩,
    ⟨none, .mov (.l 2)⟩,
    ⟨none, .mov (.l 1)⟩] [(3, 1), (4, 0)] []) (
  .seq (.seq (.reg false [⟨none, .mov (.r 3)⟩,
    ⟨none, .mov (.r 1)⟩,
    ⟨none, .len (.l 0)⟩,
    ⟨none, .bin .geq (.l 2) (.l 0)⟩] [(11, 0)] []) (
  .cond (.r 11) (
  .seq (.reg false [⟨none, .mov (.v (.c (.d (.int .i64 1))))⟩] [(2, 0)] []) (
  .ret)) (
  .skip))) (
  .seq (.reg false [⟨none, .mov (.r 1)⟩,
    ⟨none, .mov (.r 3)⟩,
    ⟨none, .ixa 1 (.l 1) (.l 0)⟩,
    ⟨none, .ld false 1 (.l 0)⟩,
    ⟨none, .mov (.l 0)⟩] [(5, 0)] []) (
  .seq (.reg false [⟨none, .mov (.r 4)⟩,
    ⟨none, .mov (.r 5)⟩,
    ⟨none, .vc 175 [(.l 1), (.l 0)]⟩,
    ⟨none, .mov (.l 0)⟩] [(6, 0)] []) (
  .seq (.reg false [⟨none, .mov (.r 6)⟩,
    ⟨none, .bin .neq (.l 0) (.v (.c (.d (.int .i64 0))))⟩] [(12, 0)] []) (
  .cond (.r 12) (
  .seq (.reg false [⟨none, .mov (.r 6)⟩,
    ⟨none, .mov (.l 0)⟩] [(2, 0)] []) (
  .ret)) (
  .skip)))))))) (
  .reg false [⟨none, .bin .add (.r 9) (.v (.c (.d (.int .i64 1))))⟩,
    ⟨none, .mov (.l 0)⟩] [(9, 0)] [])))
def fn132 : Fn := ⟨2, 14, [0, 1, 4, 5, 6, 7, 8, 9, 10, 11, 12, 19, 28, 35], [.r 2],
  .seq (.reg false [⟨none, .mov (.v (.c (.d (.int .i64 0))))⟩] [(2, 0)] []) (
  .seq (.seq (.reg false [⟨none, .mov (.r 0)⟩,
    ⟨none, .len (.l 0)⟩,
    ⟨none, .mov (.v (.c (.d (.int .i64 0))))⟩] [(7, 2), (8, 1), (9, 0)] []) (
  .block 0 (
  .loop (some [0, 1, 7, 8, 9]) fn132L0))) (
  .seq (.seq (.reg false [⟨none, .mov (.r 0)⟩,
    ⟨none, .len (.l 0)⟩,
    ⟨none, .mov (.r 1)⟩,
    ⟨none, .len (.l 0)⟩,
    ⟨none, .bin .lss (.l 2) (.l 0)⟩] [(13, 0)] []) (
  .cond (.r 13) (
  .seq (.reg false [⟨none, .mov (.v (.c (.d (.int .i64 (-1)))))⟩] [(2, 0)] []) (
  .ret)) (
  .skip))) (
  .seq (.reg false [⟨none, .mov (.v (.c (.d (.int .i64 0))))⟩] [(2, 0)] []) (
  .ret))))⟩
def fn135 : Fn := ⟨1, 2, [0, 2], [.r 1],
  .seq (.reg false [⟨none, .mov (.v (.c (.d (.nilp))))⟩] [(1, 0)] []) (
  .seq (.reg true [⟨none, .mov (.r 0)⟩,
    ⟨none, .nlc (.l 0)⟩,
    ⟨none, .fa 0 (.l 0)⟩,
    ⟨none, .ld false 1 (.l 0)⟩,
    ⟨none, .mov (.r 0)⟩,
    ⟨none, .nlc (.l 0)⟩,
    ⟨none, .fa 0 (.l 0)⟩,
    ⟨none, .ld false 1 (.l 0)⟩,
    ⟨none, .len (.l 0)⟩,
    ⟨none, .bin .sub (.l 0) (.v (.c (.d (.int .i64 1))))⟩,
    ⟨none, .ixa 8 (.l 6) (.l 0)⟩,
    ⟨none, .mov (.l 0)⟩] [(1, 0)] []) (
  .ret))⟩
def fn136L0 : I := .seq (.reg false [⟨none, .bin .lss (.r 14) (.r 13)⟩] [(15, 0)] []) (
  .seq (.cond (.r 15) (
  .skip) (
  .exit 0)) (
  .seq (.block 1 (
  .seq (.reg false [⟨none, .mov (.r 14)⟩,
    ⟨none, .ixa 1 (.r 12) (.r 14)⟩,
    ⟨none, .ld false 1 (.l 0)⟩,
    ⟨none, .mov (.l 2)⟩,
    ⟨none, .mov (.l 1)⟩] [(6, 1), (7, 0)] []) (
  .seq (.seq (.reg false [⟨none, .mov (.r 7)⟩,
    ⟨none, .vc 182 [(.l 0)]⟩,
    ⟨none, .un .not (.l 0)⟩] [(16, 0)] []) (
  .cond (.r 16) (
  .seq (.reg false [⟨none, .bld [.int .u8 0, .int .u32 0, .int .u32 0, .int .u32 0, .int .u32 0, .int .u32 0, .int .u32 0, .int .u32 0, .int .u32 0, .int .u32 0, .int .u32 0, .int .u32 0, .int .u32 0, .int .u32 0, .int .u32 0, .int .u32 0, .int .u32 0] []⟩,
    ⟨none, .st 17 (.r 1) (.l 0)⟩,
    ⟨none, .mov (.v (.c (.d (.int .i64 6))))⟩] [(2, 0)] []) (
  .ret)) (
  .skip))) (
  .seq (.reg false [⟨none, .mov (.r 7)⟩,
    ⟨none, .pc 183 [(.l 0), (.v (.c (.d (.int .i64 10)))), (.v (.c (.d (.int .i64 32))))]⟩,
    ⟨none, .mov (.l 0)⟩,
    ⟨none, .ext (.l 0) 0⟩,
    ⟨none, .ext (.l 1) 1⟩,
    ⟨none, .mov (.l 1)⟩,
    ⟨none, .mov (.l 1)⟩] [(8, 1), (9, 0)] []) (
  .seq (.reg false [⟨none, .mov (.r 5)⟩,
    ⟨none, .mov (.l 0)⟩,
    ⟨some (0, false), .mov (.r 9)⟩,
    ⟨some (1, false), .isn true (.l 0)⟩,
    ⟨none, .pick (.l 2) (.v (.c (.d (.bool true)))) (.l 0)⟩,
    ⟨none, .mov (.l 0)⟩] [(5, 0)] []) (
  .seq (.reg false [⟨none, .mov (.r 6)⟩,
    ⟨none, .bin .lss (.l 0) (.v (.c (.d (.int .i64 16))))⟩] [(17, 0)] []) (
  .cond (.r 17) (
  .reg false [⟨none, .mov (.r 6)⟩,
    ⟨none, .mov (.r 8)⟩,
    ⟨none, .cvi .u32 (.l 0)⟩,
    ⟨none, .fa 1 (.r 4)⟩,
    ⟨none, .ixp 16 1 (.l 0) (.l 3)⟩,
    ⟨none, .st 1 (.l 0) (.l 2)⟩] [] []) (
  .skip)))))))) (
  .reg false [⟨none, .bin .add (.r 14) (.v (.c (.d (.int .i64 1))))⟩,
    ⟨none, .mov (.l 0)⟩] [(14, 0)] [])))
def fn136 : Fn := ⟨1, 20, [0, 2, 3, 4, 5, 6, 7, 8, 9, 10, 11, 21, 27, 28, 29, 30, 36, 49, 56, 61], [.cell 1 17 true, .r 2],
  .seq (.reg false [⟨none, .new [.int .u8 0, .int .u32 0, .int .u32 0, .int .u32 0, .int .u32 0, .int .u32 0, .int .u32 0, .int .u32 0, .int .u32 0, .int .u32 0, .int .u32 0, .int .u32 0, .int .u32 0, .int .u32 0, .int .u32 0, .int .u32 0, .int .u32 0]⟩,
    ⟨none, .mov (.v (.c (.d (.int .i64 0))))⟩] [(1, 1), (2, 0)] []) (
  .seq (.reg false [⟨none, .mov (.r 0)⟩,
    ⟨none, .pc 100 [(.l 0), (.v (.c (.d (.str [46]))))]⟩,
    ⟨none, .mov (.l 0)⟩] [(3, 0)] []) (
  .seq (.seq (.reg false [⟨none, .mov (.r 3)⟩,
    ⟨none, .vc 180 [(.l 0), (.v (.c (.d (.fn 181 [] []))))]⟩,
    ⟨none, .un .not (.l 0)⟩,
    ⟨none, .mov (.l 0)⟩,
    ⟨some (0, true), .mov (.r 3)⟩,
    ⟨some (1, true), .len (.l 0)⟩,
    ⟨some (2, true), .bin .gtr (.l 0) (.v (.c (.d (.int .i64 16))))⟩,
    ⟨none, .pick (.l 3) (.l 0) (.v (.c (.d (.bool false))))⟩] [(11, 0)] []) (
  .cond (.r 11) (
  .seq (.reg false [⟨none, .bld [.int .u8 0, .int .u32 0, .int .u32 0, .int .u32 0, .int .u32 0, .int .u32 0, .int .u32 0, .int .u32 0, .int .u32 0, .int .u32 0, .int .u32 0, .int .u32 0, .int .u32 0, .int .u32 0, .int .u32 0, .int .u32 0, .int .u32 0] []⟩,
    ⟨none, .st 17 (.r 1) (.l 0)⟩,
    ⟨none, .mov (.v (.c (.d (.int .i64 3))))⟩] [(2, 0)] []) (
  .ret)) (
  .skip))) (
  .seq (.reg false [⟨none, .mov (.r 3)⟩,
    ⟨none, .len (.l 0)⟩,
    ⟨none, .cvi .u8 (.l 0)⟩,
    ⟨none, .bld [.int .u8 0, .int .u32 0, .int .u32 0, .int .u32 0, .int .u32 0, .int .u32 0, .int .u32 0, .int .u32 0, .int .u32 0, .int .u32 0, .int .u32 0, .int .u32 0, .int .u32 0, .int .u32 0, .int .u32 0, .int .u32 0, .int .u32 0] [(0, 1, (.l 0))]⟩,
    ⟨none, .pre⟩,
    ⟨none, .ini 17 (.l 1)⟩] [(4, 0)] []) (
  .seq (.reg false [⟨none, .mov (.v (.c (.d (.bool false))))⟩] [(5, 0)] []) (
  .seq (.seq (.reg false [⟨none, .mov (.r 3)⟩,
    ⟨none, .len (.l 0)⟩,
    ⟨none, .mov (.v (.c (.d (.int .i64 0))))⟩] [(12, 2), (13, 1), (14, 0)] []) (
  .block 0 (
  .loop (some [1, 4, 5, 12, 13, 14]) fn136L0))) (
  .seq (.seq (.reg false [⟨none, .mov (.r 5)⟩] [(18, 0)] []) (
  .cond (.r 18) (
  .seq (.reg false [⟨none, .bld [.int .u8 0, .int .u32 0, .int .u32 0, .int .u32 0, .int .u32 0, .int .u32 0, .int .u32 0, .int .u32 0, .int .u32 0, .int .u32 0, .int .u32 0, .int .u32 0, .int .u32 0, .int .u32 0, .int .u32 0, .int .u32 0, .int .u32 0] []⟩,
    ⟨none, .st 17 (.r 1) (.l 0)⟩,
    ⟨none, .mov (.v (.c (.d (.int .i64 3))))⟩] [(2, 0)] []) (
  .ret)) (
  .skip))) (
  .seq (.seq (.reg false [⟨none, .ld true 17 (.r 4)⟩,
    ⟨none, .vc 52 [(.l 0)]⟩,
    ⟨none, .mov (.l 0)⟩] [(10, 0)] []) (
  .seq (.reg false [⟨none, .mov (.r 10)⟩,
    ⟨none, .bin .neq (.l 0) (.v (.c (.d (.int .i64 0))))⟩] [(19, 0)] []) (
  .cond (.r 19) (
  .seq (.reg false [⟨none, .bld [.int .u8 0, .int .u32 0, .int .u32 0, .int .u32 0, .int .u32 0, .int .u32 0, .int .u32 0, .int .u32 0, .int .u32 0, .int .u32 0, .int .u32 0, .int .u32 0, .int .u32 0, .int .u32 0, .int .u32 0, .int .u32 0, .int .u32 0] []⟩,
    ⟨none, .mov (.r 10)⟩,
    ⟨none, .st 17 (.r 1) (.l 1)⟩,
    ⟨none, .mov (.l 1)⟩] [(2, 0)] []) (
  .ret)) (
  .skip)))) (
  .seq (.reg false [⟨none, .ld true 17 (.r 4)⟩,
    ⟨none, .st 17 (.r 1) (.l 0)⟩,
    ⟨none, .mov (.v (.c (.d (.int .i64 0))))⟩] [(2, 0)] []) (
  .ret)))))))))⟩
def fn137L0 : I := .seq (.reg false [⟨none, .bin .lss (.r 8) (.r 7)⟩] [(9, 0)] []) (
  .seq (.cond (.r 9) (
  .skip) (
  .exit 0)) (
  .seq (.block 1 (
  .seq (.reg false [⟨none, .mov (.r 8)⟩,
    ⟨none, .mov (.l 0)⟩] [(4, 0)] []) (
  .seq (.reg false [⟨none, .mov (.r 0)⟩,
    ⟨none, .mov (.r 4)⟩,
    ⟨none, .ixs (.l 1) (.l 0)⟩,
    ⟨none, .pc 184 [(.v (.c (.d (.str [48, 49, 50, 51, 52, 53, 54, 55, 56, 57, 97, 98, 99, 100, 101, 102])))), (.l 0)]⟩,
    ⟨none, .mov (.l 0)⟩] [(5, 0)] []) (
  .seq (.seq (.reg false [⟨none, .mov (.r 5)⟩,
    ⟨none, .bin .lss (.l 0) (.v (.c (.d (.int .i64 0))))⟩] [(10, 0)] []) (
  .cond (.r 10) (
  .seq (.reg false [⟨none, .mov (.v (.c (.d (.nils))))⟩,
    ⟨none, .mov (.v (.c (.d (.bool false))))⟩] [(1, 1), (2, 0)] []) (
  .ret)) (
  .skip))) (
  .reg false [⟨none, .mov (.r 3)⟩,
    ⟨none, .mov (.r 4)⟩,
    ⟨none, .bin .quo (.l 0) (.v (.c (.d (.int .i64 2))))⟩,
    ⟨none, .mov (.r 3)⟩,
    ⟨none, .mov (.r 4)⟩,
    ⟨none, .bin .quo (.l 0) (.v (.c (.d (.int .i64 2))))⟩,
    ⟨none, .ixa 1 (.l 2) (.l 0)⟩,
    ⟨none, .ld false 1 (.l 0)⟩,
    ⟨none, .bin .mul (.l 0) (.v (.c (.d (.int .u8 16))))⟩,
    ⟨none, .mov (.r 5)⟩,
    ⟨none, .cvi .u8 (.l 0)⟩,
    ⟨none, .bin .add (.l 2) (.l 0)⟩,
    ⟨none, .ixa 1 (.l 11) (.l 9)⟩,
    ⟨none, .st 1 (.l 0) (.l 1)⟩] [] []))))) (
  .reg false [⟨none, .bin .add (.r 8) (.v (.c (.d (.int .i64 1))))⟩,
    ⟨none, .mov (.l 0)⟩] [(8, 0)] [])))
def fn137 : Fn := ⟨1, 11, [0, 2, 3, 4, 5, 6, 10, 16, 17, 18, 25], [.r 1, .r 2],
  .seq (.reg false [⟨none, .mov (.v (.c (.d (.nils))))⟩,
    ⟨none, .mov (.v (.c (.d (.bool false))))⟩] [(1, 1), (2, 0)] []) (
  .seq (.seq (.reg false [⟨none, .mov (.r 0)⟩,
    ⟨none, .lns (.l 0)⟩,
    ⟨none, .bin .rem (.l 0) (.v (.c (.d (.int .i64 2))))⟩,
    ⟨none, .bin .neq (.l 0) (.v (.c (.d (.int .i64 0))))⟩] [(6, 0)] []) (
  .cond (.r 6) (
  .seq (.reg false [⟨none, .mov (.v (.c (.d (.nils))))⟩,
    ⟨none, .mov (.v (.c (.d (.bool false))))⟩] [(1, 1), (2, 0)] []) (
  .ret)) (
  .skip))) (
  .seq (.reg false [⟨none, .mov (.r 0)⟩,
    ⟨none, .lns (.l 0)⟩,
    ⟨none, .bin .quo (.l 0) (.v (.c (.d (.int .i64 2))))⟩,
    ⟨none, .mks 1 1 [.int .u8 0] (.l 0) (.l 0)⟩,
    ⟨none, .mov (.l 0)⟩] [(3, 0)] []) (
  .seq (.seq (.reg false [⟨none, .mov (.r 0)⟩,
    ⟨none, .lns (.l 0)⟩,
    ⟨none, .mov (.v (.c (.d (.int .i64 0))))⟩] [(7, 1), (8, 0)] []) (
  .block 0 (
  .loop (some [0, 3, 7, 8]) fn137L0))) (
  .seq (.reg false [⟨none, .mov (.r 3)⟩,
    ⟨none, .mov (.l 0)⟩,
    ⟨none, .mov (.v (.c (.d (.bool true))))⟩] [(1, 1), (2, 0)] []) (
  .ret)))))⟩
def fn138 : Fn := ⟨1, 7, [0, 2, 3, 4, 5, 13, 19], [.cell 1 5 true, .r 2, .r 3],
  .seq (.reg false [⟨none, .new [.int .u8 0, .bool false, .int .u32 0, .nils, .nils]⟩,
    ⟨none, .mov (.v (.c (.d (.int .i64 0))))⟩,
    ⟨none, .mov (.v (.c (.d (.int .i64 0))))⟩] [(1, 2), (2, 1), (3, 0)] []) (
  .seq (.reg false [⟨none, .mov (.r 0)⟩,
    ⟨none, .vc 185 [(.l 0)]⟩,
    ⟨none, .mov (.l 0)⟩,
    ⟨none, .ext (.l 0) 0⟩,
    ⟨none, .ext (.l 1) 1⟩,
    ⟨none, .ext (.l 2) 2⟩,
    ⟨none, .ext (.l 3) 3⟩,
    ⟨none, .st 5 (.r 1) (.l 3)⟩,
    ⟨none, .mov (.l 3)⟩,
    ⟨none, .mov (.l 3)⟩,
    ⟨none, .mov (.l 3)⟩] [(4, 2), (2, 1), (3, 0)] []) (
  .seq (.block 0 (
  .seq (.reg false [⟨none, .mov (.r 3)⟩,
    ⟨none, .bin .neq (.l 0) (.v (.c (.d (.int .i64 0))))⟩,
    ⟨none, .mov (.l 0)⟩] [(5, 0)] []) (
  .cond (.r 5) (
  .seq (.reg false [⟨none, .bld [.int .u8 0, .bool false, .int .u32 0, .nils, .nils] []⟩,
    ⟨none, .mov (.r 2)⟩,
    ⟨none, .mov (.r 3)⟩,
    ⟨none, .st 5 (.r 1) (.l 2)⟩,
    ⟨none, .mov (.l 2)⟩,
    ⟨none, .mov (.l 2)⟩] [(2, 1), (3, 0)] []) (
  .ret)) (
  .seq (.reg false [⟨none, .mov (.r 4)⟩,
    ⟨none, .mov (.r 0)⟩,
    ⟨none, .len (.l 0)⟩,
    ⟨none, .bin .lss (.l 2) (.l 0)⟩,
    ⟨none, .mov (.l 0)⟩] [(6, 0)] []) (
  .cond (.r 6) (
  .seq (.reg false [⟨none, .bld [.int .u8 0, .bool false, .int .u32 0, .nils, .nils] []⟩,
    ⟨none, .mov (.r 4)⟩,
    ⟨none, .st 5 (.r 1) (.l 1)⟩,
    ⟨none, .mov (.l 1)⟩,
    ⟨none, .mov (.v (.c (.d (.int .i64 8))))⟩] [(2, 1), (3, 0)] []) (
  .ret)) (
  .skip)))))) (
  .seq (.reg false [⟨none, .ld true 5 (.r 1)⟩,
    ⟨none, .st 5 (.r 1) (.l 0)⟩,
    ⟨none, .mov (.v (.c (.d (.int .i64 0))))⟩,
    ⟨none, .mov (.v (.c (.d (.int .i64 0))))⟩] [(2, 1), (3, 0)] []) (
  .ret))))⟩
def fn139 : Fn := ⟨1, 17, [0, 1, 2, 3, 5, 7, 8, 9, 10, 11, 18, 34, 47, 56, 66, 73, 82], [.cell 2 27 true, .cell 3 2 true],
  .seq (.reg false [⟨none, .box (.r 0)⟩,
    ⟨none, .new [.int .u8 0, .str [], .bool false, .int .u32 0, .str [], .nils, .bool false, .int .u32 0, .str [], .int .u8 0, .int .u32 0, .int .u32 0, .int .u32 0, .int .u32 0, .int .u32 0, .int .u32 0, .int .u32 0, .int .u32 0, .int .u32 0, .int .u32 0, .int .u32 0, .int .u32 0, .int .u32 0, .int .u32 0, .int .u32 0, .int .u32 0, .nils]⟩,
    ⟨none, .new [.nils, .int .i64 0]⟩] [(1, 2), (2, 1), (3, 0)] []) (
  .seq (.seq (.reg false [⟨none, .ld true 5 (.r 1)⟩,
    ⟨none, .vc 90 [(.l 0)]⟩,
    ⟨none, .mov (.l 0)⟩,
    ⟨none, .ext (.l 0) 0⟩,
    ⟨none, .ext (.l 1) 1⟩,
    ⟨none, .mov (.l 1)⟩,
    ⟨none, .mov (.l 1)⟩] [(4, 0)] []) (
  .seq (.reg false [⟨none, .mov (.r 4)⟩,
    ⟨none, .bin .neq (.l 0) (.v (.c (.d (.int .i64 0))))⟩] [(10, 0)] []) (
  .cond (.r 10) (
  .seq (.reg false [⟨none, .ld true 27 (.r 2)⟩,
    ⟨none, .mov (.r 4)⟩,
    ⟨none, .bld [.nils, .int .i64 0] [(1, 1, (.l 0))]⟩,
    ⟨none, .st 27 (.r 2) (.l 2)⟩,
    ⟨none, .st 2 (.r 3) (.l 1)⟩] [] []) (
  .ret)) (
  .skip)))) (
  .seq (.seq (.reg false [⟨none, .ld true 5 (.r 1)⟩,
    ⟨none, .ld true 3 (.g 0)⟩,
    ⟨none, .ld true 3 (.g 1)⟩,
    ⟨none, .bld [.int .u8 0, .bool false, .int .u32 0, .bool false, .bool false] [(0, 3, (.l 0))]⟩,
    ⟨none, .bld [.int .u8 0, .bool false, .int .u32 0, .bool false, .bool false] [(3, 1, (.v (.c (.d (.bool true)))))]⟩,
    ⟨none, .bsl 2 5 [.int .u8 0, .bool false, .int .u32 0, .bool false, .bool false] [(0, 5, (.l 1)), (5, 5, (.l 0))]⟩,
    ⟨none, .vc 186 [(.l 5), (.l 4), (.l 0)]⟩,
    ⟨none, .mov (.l 0)⟩,
    ⟨none, .ext (.l 0) 0⟩,
    ⟨none, .ext (.l 1) 1⟩,
    ⟨none, .pre⟩,
    ⟨none, .mov (.l 2)⟩,
    ⟨none, .ini 2 (.l 2)⟩] [(5, 0)] []) (
  .seq (.reg false [⟨none, .fa 1 (.r 5)⟩,
    ⟨none, .ld false 1 (.l 0)⟩,
    ⟨none, .bin .neq (.l 0) (.v (.c (.d (.int .i64 0))))⟩] [(11, 0)] []) (
  .cond (.r 11) (
  .seq (.reg true [⟨none, .ld true 27 (.r 2)⟩,
    ⟨none, .ld true 2 (.r 5)⟩,
    ⟨none, .st 27 (.r 2) (.l 1)⟩,
    ⟨none, .st 2 (.r 3) (.l 1)⟩] [] [((.r 5), (.r 2))]) (
  .ret)) (
  .skip)))) (
  .seq (.reg false [⟨none, .fa 4 (.r 1)⟩,
    ⟨none, .ld false 1 (.l 0)⟩,
    ⟨none, .ixa 5 (.l 0) (.v (.c (.d (.int .i64 0))))⟩,
    ⟨none, .fa 3 (.l 0)⟩,
    ⟨none, .ld false 1 (.l 0)⟩,
    ⟨none, .vc 187 [(.l 0)]⟩,
    ⟨none, .mov (.l 0)⟩,
    ⟨none, .ext (.l 0) 0⟩,
    ⟨none, .ext (.l 1) 1⟩,
    ⟨none, .pre⟩,
    ⟨none, .ini 17 (.l 2)⟩,
    ⟨none, .mov (.l 2)⟩] [(6, 1), (7, 0)] []) (
  .seq (.seq (.reg false [⟨none, .mov (.r 7)⟩,
    ⟨none, .bin .neq (.l 0) (.v (.c (.d (.int .i64 0))))⟩] [(12, 0)] []) (
  .cond (.r 12) (
  .seq (.reg true [⟨none, .ld true 27 (.r 2)⟩,
    ⟨none, .mov (.r 7)⟩,
    ⟨none, .bld [.nils, .int .i64 0] [(1, 1, (.l 0))]⟩,
    ⟨none, .vc 188 [(.v (.c (.d (.int .i64 0)))), (.l 0)]⟩,
    ⟨none, .st 27 (.r 2) (.l 3)⟩,
    ⟨none, .st 2 (.r 3) (.l 1)⟩] [] []) (
  .ret)) (
  .skip))) (
  .seq (.reg false [⟨none, .new [.nils, .int .i64 0]⟩] [(8, 0)] []) (
  .seq (.seq (.reg false [⟨none, .fa 4 (.r 1)⟩,
    ⟨none, .ld false 1 (.l 0)⟩,
    ⟨none, .ixa 5 (.l 0) (.v (.c (.d (.int .i64 1))))⟩,
    ⟨none, .ld true 5 (.l 0)⟩,
    ⟨none, .pre⟩,
    ⟨none, .ini 5 (.l 1)⟩] [(9, 0)] []) (
  .seq (.reg false [⟨none, .ld true 17 (.r 6)⟩] [(13, 0)] []) (
  .block 0 (
  .seq (.reg false [⟨none, .vc 153 [(.v (.c (.d (.int .u8 1))))]⟩,
    ⟨none, .eqa false 17 (.r 13) (.l 0)⟩,
    ⟨none, .mov (.l 0)⟩] [(14, 0)] []) (
  .cond (.r 14) (
  .reg false [⟨none, .ld true 5 (.r 9)⟩,
    ⟨none, .vc 189 [(.r 8), (.l 0)]⟩,
    ⟨none, .fa 0 (.r 2)⟩,
    ⟨none, .st 1 (.l 0) (.v (.c (.d (.int .u8 1))))⟩,
    ⟨none, .fa 1 (.r 2)⟩,
    ⟨none, .st 1 (.l 0) (.l 3)⟩] [] []) (
  .seq (.reg false [⟨none, .vc 153 [(.v (.c (.d (.int .u8 2))))]⟩,
    ⟨none, .eqa false 17 (.r 13) (.l 0)⟩,
    ⟨none, .mov (.l 0)⟩] [(15, 0)] []) (
  .cond (.r 15) (
  .seq (.reg false [⟨none, .fa 0 (.r 2)⟩,
    ⟨none, .st 1 (.l 0) (.v (.c (.d (.int .u8 2))))⟩] [] []) (
  .reg false [⟨none, .ld true 5 (.r 9)⟩,
    ⟨none, .vc 190 [(.r 8), (.l 0), (.r 2)]⟩] [] [])) (
  .seq (.reg true [⟨none, .ld true 17 (.r 6)⟩,
    ⟨none, .fa 0 (.r 2)⟩,
    ⟨none, .st 1 (.l 0) (.v (.c (.d (.int .u8 3))))⟩,
    ⟨none, .fa 9 (.r 2)⟩,
    ⟨none, .st 17 (.l 0) (.l 3)⟩] [] [((.r 6), (.l 3))]) (
  .reg false [⟨none, .ld true 5 (.r 9)⟩,
    ⟨none, .vc 90 [(.l 0)]⟩,
    ⟨none, .mov (.l 0)⟩,
    ⟨none, .ext (.l 0) 0⟩,
    ⟨none, .ext (.l 1) 1⟩,
    ⟨none, .fa 26 (.r 2)⟩,
    ⟨none, .st 1 (.l 0) (.l 2)⟩] [] []))))))))) (
  .seq (.seq (.reg false [⟨none, .fa 0 (.r 8)⟩,
    ⟨none, .fa 1 (.l 0)⟩,
    ⟨none, .ld false 1 (.l 0)⟩,
    ⟨none, .bin .neq (.l 0) (.v (.c (.d (.int .i64 0))))⟩] [(16, 0)] []) (
  .cond (.r 16) (
  .seq (.reg false [⟨none, .bld [.int .u8 0, .str [], .bool false, .int .u32 0, .str [], .nils, .bool false, .int .u32 0, .str [], .int .u8 0, .int .u32 0, .int .u32 0, .int .u32 0, .int .u32 0, .int .u32 0, .int .u32 0, .int .u32 0, .int .u32 0, .int .u32 0, .int .u32 0, .int .u32 0, .int .u32 0, .int .u32 0, .int .u32 0, .int .u32 0, .int .u32 0, .nils] []⟩,
    ⟨none, .fa 0 (.r 8)⟩,
    ⟨none, .ld true 2 (.l 0)⟩,
    ⟨none, .st 27 (.r 2) (.l 2)⟩,
    ⟨none, .st 2 (.r 3) (.l 1)⟩] [] []) (
  .ret)) (
  .skip))) (
  .seq (.reg false [⟨none, .ld true 27 (.r 2)⟩,
    ⟨none, .bld [.nils, .int .i64 0] []⟩,
    ⟨none, .st 27 (.r 2) (.l 1)⟩,
    ⟨none, .st 2 (.r 3) (.l 1)⟩] [] []) (
  .ret)))))))))⟩
def fn140 : Fn := ⟨4, 9, [0, 1, 2, 3, 8, 9, 10, 28, 49], [.r 4],
  .seq (.reg false [⟨none, .mov (.v (.c (.d (.bool false))))⟩] [(4, 0)] []) (
  .seq (.seq (.reg false [⟨none, .mov (.r 1)⟩,
    ⟨none, .len (.l 0)⟩,
    ⟨none, .bin .neq (.l 0) (.v (.c (.d (.int .i64 1))))⟩,
    ⟨none, .mov (.l 0)⟩,
    ⟨some (0, false), .mov (.r 0)⟩,
    ⟨some (1, false), .nlc (.l 0)⟩,
    ⟨some (2, false), .fa 1 (.l 0)⟩,
    ⟨some (3, false), .ld false 1 (.l 0)⟩,
    ⟨some (4, false), .mov (.r 2)⟩,
    ⟨some (5, false), .bin .geq (.l 1) (.l 0)⟩,
    ⟨none, .pick (.l 6) (.v (.c (.d (.bool true)))) (.l 0)⟩,
    ⟨none, .mov (.l 0)⟩,
    ⟨some (0, false), .mov (.r 1)⟩,
    ⟨some (1, false), .ixa 1 (.l 0) (.v (.c (.d (.int .i64 0))))⟩,
    ⟨some (2, false), .ld false 1 (.l 0)⟩,
    ⟨some (3, false), .lns (.l 0)⟩,
    ⟨some (4, false), .bin .gtr (.l 0) (.v (.c (.d (.int .i64 10))))⟩,
    ⟨none, .pick (.l 5) (.v (.c (.d (.bool true)))) (.l 0)⟩] [(7, 0)] []) (
  .cond (.r 7) (
  .seq (.reg false [⟨none, .mov (.v (.c (.d (.bool false))))⟩] [(4, 0)] []) (
  .ret)) (
  .skip))) (
  .seq (.reg false [⟨none, .mov (.r 1)⟩,
    ⟨none, .ixa 1 (.l 0) (.v (.c (.d (.int .i64 0))))⟩,
    ⟨none, .ld false 1 (.l 0)⟩,
    ⟨none, .vc 191 [(.l 0)]⟩,
    ⟨none, .mov (.l 0)⟩,
    ⟨none, .ext (.l 0) 0⟩,
    ⟨none, .ext (.l 1) 1⟩,
    ⟨none, .mov (.l 1)⟩,
    ⟨none, .mov (.l 1)⟩] [(5, 1), (6, 0)] []) (
  .seq (.seq (.reg true [⟨none, .mov (.r 6)⟩,
    ⟨none, .isn true (.l 0)⟩,
    ⟨none, .mov (.l 0)⟩,
    ⟨some (0, false), .mov (.r 5)⟩,
    ⟨some (1, false), .pc 129 [(.l 0)]⟩,
    ⟨some (2, false), .mov (.r 1)⟩,
    ⟨some (3, false), .ixa 1 (.l 0) (.v (.c (.d (.int .i64 0))))⟩,
    ⟨some (4, false), .ld false 1 (.l 0)⟩,
    ⟨some (5, false), .bin .neq (.l 3) (.l 0)⟩,
    ⟨none, .pick (.l 6) (.v (.c (.d (.bool true)))) (.l 0)⟩,
    ⟨none, .mov (.l 0)⟩,
    ⟨some (0, false), .mov (.r 5)⟩,
    ⟨some (1, false), .bin .lss (.l 0) (.v (.c (.d (.int .i64 0))))⟩,
    ⟨none, .pick (.l 2) (.v (.c (.d (.bool true)))) (.l 0)⟩] [(8, 0)] []) (
  .cond (.r 8) (
  .seq (.reg false [⟨none, .mov (.v (.c (.d (.bool false))))⟩] [(4, 0)] []) (
  .ret)) (
  .skip))) (
  .seq (.reg false [⟨none, .mov (.r 3)⟩,
    ⟨none, .mov (.r 5)⟩,
    ⟨none, .nlc (.l 1)⟩,
    ⟨none, .st 1 (.l 0) (.l 1)⟩] [] []) (
  .seq (.reg false [⟨none, .mov (.r 0)⟩,
    ⟨none, .mov (.r 2)⟩,
    ⟨none, .nlc (.l 1)⟩,
    ⟨none, .fa 1 (.l 0)⟩,
    ⟨none, .st 1 (.l 0) (.l 2)⟩] [] []) (
  .seq (.reg false [⟨none, .mov (.v (.c (.d (.bool true))))⟩] [(4, 0)] []) (
  .ret)))))))⟩
def fn151 : Fn := ⟨0, 1, [0], [.cell 0 12 true],
  .seq (.reg false [⟨none, .new [.nilf, .nilf, .nilf, .nilf, .nilf, .nilf, .nilf, .nilf, .nilf, .nilf, .nilf, .nilf]⟩] [(0, 0)] []) (
  .seq (.reg false [⟨none, .bld [.nilf, .nilf, .nilf] [(0, 1, (.v (.c (.d (.fn 197 [] []))))), (1, 1, (.v (.c (.d (.fn 198 [] []))))), (2, 1, (.v (.c (.d (.fn 199 [] [])))))]⟩,
    ⟨none, .bld [.nilf, .nilf, .nilf] [(0, 1, (.v (.c (.d (.fn 201 [] []))))), (1, 1, (.v (.c (.d (.fn 202 [] []))))), (2, 1, (.v (.c (.d (.fn 203 [] [])))))]⟩,
    ⟨none, .bld [.nilf, .nilf, .nilf] [(0, 1, (.v (.c (.d (.fn 204 [] []))))), (1, 1, (.v (.c (.d (.fn 205 [] []))))), (2, 1, (.v (.c (.d (.fn 206 [] [])))))]⟩,
    ⟨none, .bld [.nilf, .nilf, .nilf, .nilf, .nilf, .nilf, .nilf, .nilf, .nilf, .nilf, .nilf, .nilf] [(3, 3, (.l 2)), (6, 3, (.l 1)), (9, 3, (.l 0))]⟩,
    ⟨none, .st 12 (.r 0) (.l 0)⟩] [] []) (
  .ret))⟩
def fn152 : Fn := ⟨1, 3, [0, 1, 2], [.r 2],
  .seq (.reg false [⟨none, .box (.r 0)⟩,
    ⟨none, .mov (.v (.c (.d (.bool false))))⟩] [(1, 1), (2, 0)] []) (
  .seq (.reg false [⟨none, .fa 1 (.r 1)⟩,
    ⟨none, .ld false 1 (.l 0)⟩,
    ⟨none, .bin .eql (.l 0) (.v (.c (.d (.str []))))⟩,
    ⟨none, .mov (.l 0)⟩,
    ⟨some (0, true), .fa 2 (.r 1)⟩,
    ⟨some (1, true), .ld false 1 (.l 0)⟩,
    ⟨some (2, true), .un .not (.l 0)⟩,
    ⟨none, .pick (.l 3) (.l 0) (.v (.c (.d (.bool false))))⟩,
    ⟨none, .mov (.l 0)⟩,
    ⟨some (0, true), .fa 3 (.r 1)⟩,
    ⟨some (1, true), .ld true 2 (.l 0)⟩,
    ⟨some (2, true), .bld [.int .u32 0, .str []] []⟩,
    ⟨some (3, true), .eqk false [0, 2] (.l 1) (.l 0)⟩,
    ⟨none, .pick (.l 4) (.l 0) (.v (.c (.d (.bool false))))⟩,
    ⟨none, .mov (.l 0)⟩,
    ⟨some (0, true), .fa 5 (.r 1)⟩,
    ⟨some (1, true), .ld false 1 (.l 0)⟩,
    ⟨some (2, true), .len (.l 0)⟩,
    ⟨some (3, true), .bin .eql (.l 0) (.v (.c (.d (.int .i64 0))))⟩,
    ⟨none, .pick (.l 4) (.l 0) (.v (.c (.d (.bool false))))⟩,
    ⟨none, .mov (.l 0)⟩,
    ⟨some (0, true), .fa 6 (.r 1)⟩,
    ⟨some (1, true), .ld false 1 (.l 0)⟩,
    ⟨some (2, true), .un .not (.l 0)⟩,
    ⟨none, .pick (.l 3) (.l 0) (.v (.c (.d (.bool false))))⟩,
    ⟨none, .mov (.l 0)⟩,
    ⟨some (0, true), .fa 7 (.r 1)⟩,
    ⟨some (1, true), .ld true 2 (.l 0)⟩,
    ⟨some (2, true), .bld [.int .u32 0, .str []] []⟩,
    ⟨some (3, true), .eqk false [0, 2] (.l 1) (.l 0)⟩,
    ⟨none, .pick (.l 4) (.l 0) (.v (.c (.d (.bool false))))⟩,
    ⟨none, .mov (.l 0)⟩,
    ⟨some (0, true), .fa 9 (.r 1)⟩,
    ⟨some (1, true), .ld true 17 (.l 0)⟩,
    ⟨some (2, true), .bld [.int .u8 0, .int .u32 0, .int .u32 0, .int .u32 0, .int .u32 0, .int .u32 0, .int .u32 0, .int .u32 0, .int .u32 0, .int .u32 0, .int .u32 0, .int .u32 0, .int .u32 0, .int .u32 0, .int .u32 0, .int .u32 0, .int .u32 0] []⟩,
    ⟨some (3, true), .eqa false 17 (.l 1) (.l 0)⟩,
    ⟨none, .pick (.l 4) (.l 0) (.v (.c (.d (.bool false))))⟩,
    ⟨none, .mov (.l 0)⟩,
    ⟨some (0, true), .fa 26 (.r 1)⟩,
    ⟨some (1, true), .ld false 1 (.l 0)⟩,
    ⟨some (2, true), .len (.l 0)⟩,
    ⟨some (3, true), .bin .eql (.l 0) (.v (.c (.d (.int .i64 0))))⟩,
    ⟨none, .pick (.l 4) (.l 0) (.v (.c (.d (.bool false))))⟩,
    ⟨none, .mov (.l 0)⟩] [(2, 0)] []) (
  .ret))⟩
def fn153 : Fn := ⟨1, 3, [0, 2, 8], [.cell 1 17 true],
  .seq (.reg false [⟨none, .new [.int .u8 0, .int .u32 0, .int .u32 0, .int .u32 0, .int .u32 0, .int .u32 0, .int .u32 0, .int .u32 0, .int .u32 0, .int .u32 0, .int .u32 0, .int .u32 0, .int .u32 0, .int .u32 0, .int .u32 0, .int .u32 0, .int .u32 0]⟩] [(1, 0)] []) (
  .seq (.seq (.reg false [⟨none, .mov (.r 0)⟩,
    ⟨none, .bin .neq (.l 0) (.v (.c (.d (.int .u8 1))))⟩,
    ⟨none, .mov (.l 0)⟩,
    ⟨some (0, true), .mov (.r 0)⟩,
    ⟨some (1, true), .bin .neq (.l 0) (.v (.c (.d (.int .u8 2))))⟩,
    ⟨none, .pick (.l 2) (.l 0) (.v (.c (.d (.bool false))))⟩] [(2, 0)] []) (
  .cond (.r 2) (
  .seq (.reg false [⟨none, .bld [.int .u8 0, .int .u32 0, .int .u32 0, .int .u32 0, .int .u32 0, .int .u32 0, .int .u32 0, .int .u32 0, .int .u32 0, .int .u32 0, .int .u32 0, .int .u32 0, .int .u32 0, .int .u32 0, .int .u32 0, .int .u32 0, .int .u32 0] []⟩,
    ⟨none, .st 17 (.r 1) (.l 0)⟩] [] []) (
  .ret)) (
  .skip))) (
  .seq (.reg false [⟨none, .mov (.r 0)⟩,
    ⟨none, .cvi .u32 (.l 0)⟩,
    ⟨none, .bsl 9 1 [.int .u32 0] [(0, 1, (.v (.c (.d (.int .u32 1))))), (1, 1, (.v (.c (.d (.int .u32 3))))), (2, 1, (.v (.c (.d (.int .u32 6))))), (3, 1, (.v (.c (.d (.int .u32 1))))), (4, 1, (.v (.c (.d (.int .u32 5))))), (5, 1, (.v (.c (.d (.int .u32 5))))), (6, 1, (.v (.c (.d (.int .u32 7))))), (7, 1, (.v (.c (.d (.int .u32 2))))), (8, 1, (.l 0))]⟩,
    ⟨none, .vc 83 [(.l 0)]⟩,
    ⟨none, .st 17 (.r 1) (.l 0)⟩] [] []) (
  .ret)))⟩
def fn154L0 : I := .seq (.reg false [⟨none, .bin .lss (.r 12) (.r 11)⟩] [(13, 0)] []) (
  .seq (.cond (.r 13) (
  .skip) (
  .exit 0)) (
  .seq (.block 1 (
  .seq (.reg false [⟨none, .ixa 1 (.r 10) (.r 12)⟩,
    ⟨none, .ld false 1 (.l 0)⟩,
    ⟨none, .mov (.l 0)⟩] [(7, 0)] []) (
  .seq (.reg false [⟨none, .mov (.r 7)⟩,
    ⟨none, .vc 208 [(.l 0)]⟩] [(14, 0)] []) (
  .block 2 (
  .seq (.fresh 5 (some 0) 1) (
  .rf (.r 14) [15] (
  .reg false [⟨none, .mov (.r 15)⟩] [(8, 0)] []) (
  .block 3 (
  .reg false [⟨none, .ld false 1 (.r 5)⟩,
    ⟨none, .mov (.r 8)⟩,
    ⟨none, .bsl 1 1 [.int .u8 0] [(0, 1, (.l 0))]⟩,
    ⟨none, .app 1 (.l 2) (.l 0)⟩,
    ⟨none, .st 1 (.r 5) (.l 0)⟩] [] [])))))))) (
  .reg false [⟨none, .bin .add (.r 12) (.v (.c (.d (.int .i64 1))))⟩,
    ⟨none, .mov (.l 0)⟩] [(12, 0)] [])))
def fn154 : Fn := ⟨1, 16, [0, 1, 2, 3, 4, 5, 6, 8, 9, 13, 27, 28, 29, 30, 34, 35], [.r 2, .r 3],
  .seq (.reg false [⟨none, .box (.r 0)⟩,
    ⟨none, .mov (.v (.c (.d (.nils))))⟩,
    ⟨none, .mov (.v (.c (.d (.int .i64 0))))⟩] [(1, 2), (2, 1), (3, 0)] []) (
  .seq (.seq (.reg false [⟨none, .ld true 17 (.r 1)⟩,
    ⟨none, .vc 52 [(.l 0)]⟩,
    ⟨none, .mov (.l 0)⟩] [(4, 0)] []) (
  .seq (.reg false [⟨none, .mov (.r 4)⟩,
    ⟨none, .bin .neq (.l 0) (.v (.c (.d (.int .i64 0))))⟩] [(9, 0)] []) (
  .cond (.r 9) (
  .seq (.reg false [⟨none, .mov (.r 4)⟩,
    ⟨none, .mov (.v (.c (.d (.nils))))⟩,
    ⟨none, .mov (.l 1)⟩] [(2, 1), (3, 0)] []) (
  .ret)) (
  .skip)))) (
  .seq (.reg false [⟨none, .new [.nils]⟩] [(5, 0)] []) (
  .seq (.reg false [⟨none, .hc (.v (.c (.d (.fn 123 [] [])))) [(.r 1)]⟩,
    ⟨none, .vc 207 [(.l 0)]⟩,
    ⟨none, .slc 1 (.l 0) (some (.v (.c (.d (.int .i64 1))))) none none⟩,
    ⟨none, .mov (.l 0)⟩] [(6, 0)] []) (
  .seq (.reg true [⟨none, .mov (.r 6)⟩,
    ⟨none, .ixa 1 (.l 0) (.v (.c (.d (.int .i64 0))))⟩,
    ⟨none, .ld false 1 (.l 0)⟩,
    ⟨none, .fa 1 (.r 1)⟩,
    ⟨none, .ixp 16 1 (.l 0) (.v (.c (.d (.int .i64 0))))⟩,
    ⟨none, .ld false 1 (.l 0)⟩,
    ⟨none, .bin .mul (.v (.c (.d (.int .u32 40)))) (.l 0)⟩,
    ⟨none, .bin .add (.l 4) (.l 0)⟩,
    ⟨none, .ixa 1 (.l 7) (.v (.c (.d (.int .i64 0))))⟩,
    ⟨none, .st 1 (.l 0) (.l 1)⟩] [] []) (
  .seq (.seq (.reg false [⟨none, .mov (.r 6)⟩,
    ⟨none, .len (.l 0)⟩,
    ⟨none, .mov (.v (.c (.d (.int .i64 0))))⟩] [(10, 2), (11, 1), (12, 0)] []) (
  .block 0 (
  .seq (.fresh 5 (some 0) 1) (
  .loop (some [2, 3, 5, 8, 10, 11, 12, 15]) fn154L0)))) (
  .seq (.reg false [⟨none, .ld false 1 (.r 5)⟩,
    ⟨none, .hc (.v (.c (.d (.fn 200 [] [])))) [(.l 0)]⟩,
    ⟨none, .mov (.l 0)⟩,
    ⟨none, .mov (.v (.c (.d (.int .i64 0))))⟩] [(2, 1), (3, 0)] []) (
  .ret)))))))⟩
def fn156 : Fn := ⟨2, 8, [0, 1, 4, 5, 6, 8, 10, 12], [.r 2],
  .seq (.reg false [⟨none, .mov (.v (.c (.d (.str []))))⟩] [(2, 0)] []) (
  .seq (.seq (.reg false [⟨none, .mov (.r 1)⟩,
    ⟨none, .bin .eql (.l 0) (.v (.c (.d (.int .i64 10))))⟩] [(6, 0)] []) (
  .cond (.r 6) (
  .seq (.seq (.reg false [⟨none, .mov (.r 0)⟩,
    ⟨none, .bin .lss (.l 0) (.v (.c (.d (.int .u64 100))))⟩] [(7, 0)] []) (
  .cond (.r 7) (
  .seq (.reg false [⟨none, .mov (.r 0)⟩,
    ⟨none, .cvi .i64 (.l 0)⟩,
    ⟨none, .vc 209 [(.l 0)]⟩,
    ⟨none, .mov (.l 0)⟩] [(2, 0)] []) (
  .ret)) (
  .skip))) (
  .seq (.reg false [⟨none, .new [.int .u8 0, .int .u8 0, .int .u8 0, .int .u8 0, .int .u8 0, .int .u8 0, .int .u8 0, .int .u8 0, .int .u8 0, .int .u8 0, .int .u8 0, .int .u8 0, .int .u8 0, .int .u8 0, .int .u8 0, .int .u8 0, .int .u8 0, .int .u8 0, .int .u8 0, .int .u8 0, .int .u8 0, .int .u8 0, .int .u8 0, .int .u8 0]⟩] [(3, 0)] []) (
  .seq (.reg false [⟨none, .mov (.r 0)⟩,
    ⟨none, .pc 210 [(.l 0)]⟩,
    ⟨none, .mov (.l 0)⟩] [(4, 0)] []) (
  .seq (.reg false [⟨none, .mov (.r 4)⟩,
    ⟨none, .slp 24 1 (.r 3) none (some (.l 0)) none⟩,
    ⟨none, .mov (.r 0)⟩,
    ⟨none, .hc (.v (.c (.d (.fn 211 [] [])))) [(.l 1), (.l 0)]⟩] [] []) (
  .seq (.reg false [⟨none, .mov (.r 4)⟩,
    ⟨none, .slp 24 1 (.r 3) none (some (.l 0)) none⟩,
    ⟨none, .b2s (.l 0)⟩,
    ⟨none, .mov (.l 0)⟩] [(2, 0)] []) (
  .ret)))))) (
  .skip))) (
  .seq (.reg false [⟨none, .mov (.r 0)⟩,
    ⟨none, .mov (.r 1)⟩,
    ⟨none, .vc 212 [(.v (.c (.d (.nils)))), (.l 1), (.l 0), (.v (.c (.d (.bool false)))), (.v (.c (.d (.bool false))))]⟩,
    ⟨none, .mov (.l 0)⟩,
    ⟨none, .ext (.l 0) 0⟩,
    ⟨none, .ext (.l 1) 1⟩,
    ⟨none, .mov (.l 1)⟩,
    ⟨none, .mov (.l 1)⟩] [(5, 0)] []) (
  .seq (.reg false [⟨none, .mov (.r 5)⟩,
    ⟨none, .mov (.l 0)⟩] [(2, 0)] []) (
  .ret))))⟩
def fn158 : Fn := ⟨1, 6, [0, 1, 2, 3, 4, 9], [.r 2, .cell 3 1 false, .cell 4 1 false],
  .seq (.reg false [⟨none, .box (.r 0)⟩,
    ⟨none, .mov (.v (.c (.d (.int .i64 0))))⟩,
    ⟨none, .new [.int .i64 0]⟩,
    ⟨none, .new [.int .i64 0]⟩] [(1, 3), (2, 2), (3, 1), (4, 0)] []) (
  .seq (.reg false [⟨none, .ld true 5 (.r 1)⟩,
    ⟨none, .mkf 215 [] [(.r 3), (.r 4)]⟩,
    ⟨none, .hc (.v (.c (.d (.fn 214 [] [])))) [(.l 1), (.l 0)]⟩,
    ⟨none, .mov (.l 0)⟩] [(2, 0)] []) (
  .seq (.seq (.reg false [⟨none, .mov (.r 2)⟩,
    ⟨none, .bin .neq (.l 0) (.v (.c (.d (.int .i64 0))))⟩] [(5, 0)] []) (
  .cond (.r 5) (
  .seq (.reg false [⟨none, .mov (.r 2)⟩,
    ⟨none, .mov (.l 0)⟩,
    ⟨none, .st 1 (.r 3) (.v (.c (.d (.int .i64 0))))⟩,
    ⟨none, .st 1 (.r 4) (.v (.c (.d (.int .i64 0))))⟩] [(2, 2)] []) (
  .ret)) (
  .skip))) (
  .seq (.reg true [⟨none, .ld false 1 (.r 3)⟩,
    ⟨none, .ld false 1 (.r 4)⟩,
    ⟨none, .mov (.v (.c (.d (.int .i64 0))))⟩,
    ⟨none, .st 1 (.r 3) (.l 2)⟩,
    ⟨none, .st 1 (.r 4) (.l 2)⟩] [(2, 2)] [((.r 4), (.r 3))]) (
  .ret))))⟩
def fn159L0 : I := .seq (.reg false [⟨none, .bin .lss (.r 8) (.r 7)⟩] [(9, 0)] []) (
  .seq (.cond (.r 9) (
  .skip) (
  .exit 0)) (
  .seq (.block 1 (
  .seq (.reg false [⟨none, .ixa 5 (.r 6) (.r 8)⟩,
    ⟨none, .ld true 5 (.l 0)⟩,
    ⟨none, .pre⟩,
    ⟨none, .ini 5 (.l 1)⟩] [(4, 0)] []) (
  .reg false [⟨none, .mov (.r 3)⟩,
    ⟨none, .ld true 5 (.r 4)⟩,
    ⟨none, .vc 127 [(.l 0)]⟩,
    ⟨none, .bin .add (.l 2) (.l 0)⟩,
    ⟨none, .mm false (.l 0) (.v (.c (.d (.int .i64 1048577))))⟩,
    ⟨none, .mov (.l 0)⟩] [(3, 0)] []))) (
  .reg false [⟨none, .bin .add (.r 8) (.v (.c (.d (.int .i64 1))))⟩,
    ⟨none, .mov (.l 0)⟩] [(8, 0)] [])))
def fn159 : Fn := ⟨1, 10, [0, 1, 2, 3, 5, 9, 14, 15, 16, 17], [.r 2],
  .seq (.reg false [⟨none, .box (.r 0)⟩,
    ⟨none, .mov (.v (.c (.d (.int .i64 0))))⟩] [(1, 1), (2, 0)] []) (
  .seq (.seq (.reg false [⟨none, .fa 0 (.r 1)⟩,
    ⟨none, .fa 1 (.l 0)⟩,
    ⟨none, .ld false 1 (.l 0)⟩,
    ⟨none, .un .not (.l 0)⟩] [(5, 0)] []) (
  .cond (.r 5) (
  .seq (.reg false [⟨none, .fa 3 (.r 1)⟩,
    ⟨none, .ld false 1 (.l 0)⟩,
    ⟨none, .len (.l 0)⟩,
    ⟨none, .mov (.l 0)⟩] [(2, 0)] []) (
  .ret)) (
  .skip))) (
  .seq (.reg false [⟨none, .mov (.v (.c (.d (.int .i64 0))))⟩] [(3, 0)] []) (
  .seq (.seq (.reg false [⟨none, .fa 4 (.r 1)⟩,
    ⟨none, .ld false 1 (.l 0)⟩,
    ⟨none, .len (.l 0)⟩,
    ⟨none, .mov (.v (.c (.d (.int .i64 0))))⟩] [(6, 2), (7, 1), (8, 0)] []) (
  .block 0 (
  .loop (some [3, 6, 7, 8]) fn159L0))) (
  .seq (.reg false [⟨none, .mov (.r 3)⟩,
    ⟨none, .mov (.l 0)⟩] [(2, 0)] []) (
  .ret)))))⟩
def fn160 : Fn := ⟨2, 4, [0, 1, 4, 15], [.r 2],
  .seq (.reg false [⟨none, .mov (.v (.c (.d (.int .i64 0))))⟩] [(2, 0)] []) (
  .seq (.seq (.reg false [⟨none, .mov (.r 0)⟩,
    ⟨none, .bin .lss (.l 0) (.v (.c (.d (.int .i64 1))))⟩,
    ⟨none, .mov (.l 0)⟩,
    ⟨some (0, false), .mov (.r 0)⟩,
    ⟨some (1, false), .bin .gtr (.l 0) (.v (.c (.d (.int .i64 5))))⟩,
    ⟨none, .pick (.l 2) (.v (.c (.d (.bool true)))) (.l 0)⟩,
    ⟨none, .mov (.l 0)⟩,
    ⟨some (0, false), .mov (.r 1)⟩,
    ⟨some (1, false), .vc 217 [(.l 0)]⟩,
    ⟨some (2, false), .bin .eql (.l 0) (.v (.c (.d (.int .i64 0))))⟩,
    ⟨none, .pick (.l 3) (.v (.c (.d (.bool true)))) (.l 0)⟩] [(3, 0)] []) (
  .cond (.r 3) (
  .seq (.reg false [⟨none, .mov (.v (.c (.d (.int .i64 0))))⟩] [(2, 0)] []) (
  .ret)) (
  .skip))) (
  .seq (.reg false [⟨none, .mov (.r 0)⟩,
    ⟨none, .mov (.r 1)⟩,
    ⟨none, .vc 217 [(.l 0)]⟩,
    ⟨none, .bin .add (.l 2) (.l 0)⟩,
    ⟨none, .mov (.r 1)⟩,
    ⟨none, .bin .add (.l 1) (.l 0)⟩,
    ⟨none, .mov (.l 0)⟩] [(2, 0)] []) (
  .ret)))⟩
def fn161 : Fn := ⟨1, 4, [0, 1, 2, 3], [.r 2],
  .seq (.reg false [⟨none, .box (.r 0)⟩,
    ⟨none, .mov (.v (.c (.d (.int .i64 0))))⟩] [(1, 1), (2, 0)] []) (
  .seq (.reg false [⟨none, .ld true 3 (.r 1)⟩,
    ⟨none, .vc 162 [(.l 0)]⟩,
    ⟨none, .mov (.l 0)⟩,
    ⟨none, .ext (.l 0) 0⟩,
    ⟨none, .ext (.l 1) 1⟩,
    ⟨none, .mov (.l 1)⟩,
    ⟨none, .mov (.l 1)⟩] [(3, 1)] []) (
  .seq (.reg false [⟨none, .mov (.r 3)⟩,
    ⟨none, .len (.l 0)⟩,
    ⟨none, .mov (.l 0)⟩] [(2, 0)] []) (
  .ret)))⟩
def fn162 : Fn := ⟨1, 13, [0, 1, 2, 3, 4, 5, 6, 7, 11, 17, 22, 34, 35], [.r 2, .r 3],
  .seq (.reg false [⟨none, .box (.r 0)⟩,
    ⟨none, .mov (.v (.c (.d (.nils))))⟩,
    ⟨none, .mov (.v (.c (.d (.int .i64 0))))⟩] [(1, 2), (2, 1), (3, 0)] []) (
  .seq (.seq (.reg false [⟨none, .ld true 3 (.r 1)⟩,
    ⟨none, .vc 216 [(.l 0)]⟩,
    ⟨none, .mov (.l 0)⟩] [(4, 0)] []) (
  .seq (.reg false [⟨none, .mov (.r 4)⟩,
    ⟨none, .bin .neq (.l 0) (.v (.c (.d (.int .i64 0))))⟩] [(8, 0)] []) (
  .cond (.r 8) (
  .seq (.reg false [⟨none, .mov (.r 4)⟩,
    ⟨none, .mov (.v (.c (.d (.nils))))⟩,
    ⟨none, .mov (.l 1)⟩] [(2, 1), (3, 0)] []) (
  .ret)) (
  .skip)))) (
  .seq (.reg false [⟨none, .fa 0 (.r 1)⟩,
    ⟨none, .ld false 1 (.l 0)⟩,
    ⟨none, .bin .shl (.l 0) (.v (.c (.d (.int .u64 6))))⟩,
    ⟨none, .mov (.l 0)⟩] [(5, 0)] []) (
  .seq (.seq (.reg false [⟨none, .fa 1 (.r 1)⟩,
    ⟨none, .ld false 1 (.l 0)⟩] [(9, 0)] []) (
  .cond (.r 9) (
  .reg false [⟨none, .mov (.r 5)⟩,
    ⟨none, .bin .or (.l 0) (.v (.c (.d (.int .u8 32))))⟩,
    ⟨none, .mov (.l 0)⟩] [(5, 0)] []) (
  .skip))) (
  .seq (.seq (.reg false [⟨none, .fa 2 (.r 1)⟩,
    ⟨none, .ld false 1 (.l 0)⟩,
    ⟨none, .bin .lss (.l 0) (.v (.c (.d (.int .u32 31))))⟩] [(10, 0)] []) (
  .cond (.r 10) (
  .seq (.reg false [⟨none, .mov (.r 5)⟩,
    ⟨none, .fa 2 (.r 1)⟩,
    ⟨none, .ld false 1 (.l 0)⟩,
    ⟨none, .cvi .u8 (.l 0)⟩,
    ⟨none, .bin .or (.l 3) (.l 0)⟩,
    ⟨none, .bsl 1 1 [.int .u8 0] [(0, 1, (.l 0))]⟩,
    ⟨none, .mov (.l 0)⟩,
    ⟨none, .mov (.v (.c (.d (.int .i64 0))))⟩] [(2, 1), (3, 0)] []) (
  .ret)) (
  .skip))) (
  .seq (.reg false [⟨none, .mov (.r 5)⟩,
    ⟨none, .bin .or (.l 0) (.v (.c (.d (.int .u8 31))))⟩,
    ⟨none, .bsl 1 1 [.int .u8 0] [(0, 1, (.l 0))]⟩,
    ⟨none, .pre⟩,
    ⟨none, .ini 1 (.l 1)⟩] [(6, 0)] []) (
  .seq (.seq (.reg false [⟨none, .fa 2 (.r 1)⟩,
    ⟨none, .ld false 1 (.l 0)⟩,
    ⟨none, .vc 218 [(.l 0)]⟩] [(11, 0)] []) (
  .block 0 (
  .seq (.fresh 6 (some 0) 1) (
  .rf (.r 11) [12] (
  .reg false [⟨none, .mov (.r 12)⟩] [(7, 0)] []) (
  .block 1 (
  .reg false [⟨none, .ld false 1 (.r 6)⟩,
    ⟨none, .mov (.r 7)⟩,
    ⟨none, .bsl 1 1 [.int .u8 0] [(0, 1, (.l 0))]⟩,
    ⟨none, .app 1 (.l 2) (.l 0)⟩,
    ⟨none, .st 1 (.r 6) (.l 0)⟩] [] [])))))) (
  .seq (.reg false [⟨none, .ld false 1 (.r 6)⟩,
    ⟨none, .hc (.v (.c (.d (.fn 200 [] [])))) [(.l 0)]⟩,
    ⟨none, .mov (.l 0)⟩,
    ⟨none, .mov (.v (.c (.d (.int .i64 0))))⟩] [(2, 1), (3, 0)] []) (
  .ret))))))))⟩
def fn163 : Fn := ⟨1, 9, [0, 2, 3, 4, 5, 8, 11, 18, 21], [.r 1, .r 2],
  .seq (.reg false [⟨none, .mov (.v (.c (.d (.nils))))⟩,
    ⟨none, .mov (.v (.c (.d (.int .i64 0))))⟩] [(1, 1), (2, 0)] []) (
  .seq (.block 0 (
  .seq (.reg false [⟨none, .mov (.r 0)⟩,
    ⟨none, .bin .lss (.l 0) (.v (.c (.d (.int .i64 0))))⟩,
    ⟨none, .mov (.l 0)⟩] [(4, 0)] []) (
  .cond (.r 4) (
  .seq (.reg false [⟨none, .mov (.v (.c (.d (.nils))))⟩,
    ⟨none, .mov (.v (.c (.d (.int .i64 1))))⟩] [(1, 1), (2, 0)] []) (
  .ret)) (
  .seq (.reg false [⟨none, .mov (.r 0)⟩,
    ⟨none, .bin .gtr (.l 0) (.v (.c (.d (.int .i64 16777215))))⟩,
    ⟨none, .mov (.l 0)⟩] [(5, 0)] []) (
  .cond (.r 5) (
  .seq (.reg false [⟨none, .mov (.v (.c (.d (.nils))))⟩,
    ⟨none, .mov (.v (.c (.d (.int .i64 3))))⟩] [(1, 1), (2, 0)] []) (
  .ret)) (
  .seq (.reg false [⟨none, .mov (.r 0)⟩,
    ⟨none, .bin .leq (.l 0) (.v (.c (.d (.int .i64 127))))⟩,
    ⟨none, .mov (.l 0)⟩] [(6, 0)] []) (
  .cond (.r 6) (
  .seq (.reg false [⟨none, .mov (.r 0)⟩,
    ⟨none, .cvi .u8 (.l 0)⟩,
    ⟨none, .bsl 1 1 [.int .u8 0] [(0, 1, (.l 0))]⟩,
    ⟨none, .mov (.l 0)⟩,
    ⟨none, .mov (.v (.c (.d (.int .i64 0))))⟩] [(1, 1), (2, 0)] []) (
  .ret)) (
  .skip)))))))) (
  .seq (.reg false [⟨none, .bsl 1 1 [.int .u8 0] [(0, 1, (.v (.c (.d (.int .u8 0)))))]⟩,
    ⟨none, .mov (.l 0)⟩] [(3, 0)] []) (
  .seq (.block 1 (
  .seq (.block 4 (
  .seq (.block 3 (
  .seq (.block 2 (
  .seq (.seq (.seq (.reg false [⟨none, .mov (.r 0)⟩,
    ⟨none, .bin .gtr (.l 0) (.v (.c (.d (.int .i64 65535))))⟩,
    ⟨none, .mov (.l 0)⟩] [(7, 0)] []) (
  .cond (.r 7) (
  .exit 2) (
  .skip))) (
  .seq (.reg false [⟨none, .mov (.r 0)⟩,
    ⟨none, .bin .gtr (.l 0) (.v (.c (.d (.int .i64 255))))⟩,
    ⟨none, .mov (.l 0)⟩] [(8, 0)] []) (
  .cond (.r 8) (
  .exit 3) (
  .skip)))) (
  .exit 4))) (
  .reg false [⟨none, .mov (.r 3)⟩,
    ⟨none, .mov (.r 0)⟩,
    ⟨none, .bin .shr (.l 0) (.v (.c (.d (.int .u64 16))))⟩,
    ⟨none, .cvi .u8 (.l 0)⟩,
    ⟨none, .bsl 1 1 [.int .u8 0] [(0, 1, (.l 0))]⟩,
    ⟨none, .app 1 (.l 4) (.l 0)⟩,
    ⟨none, .mov (.l 0)⟩] [(3, 0)] []))) (
  .reg false [⟨none, .mov (.r 3)⟩,
    ⟨none, .mov (.r 0)⟩,
    ⟨none, .bin .shr (.l 0) (.v (.c (.d (.int .u64 8))))⟩,
    ⟨none, .cvi .u8 (.l 0)⟩,
    ⟨none, .bsl 1 1 [.int .u8 0] [(0, 1, (.l 0))]⟩,
    ⟨none, .app 1 (.l 4) (.l 0)⟩,
    ⟨none, .mov (.l 0)⟩] [(3, 0)] []))) (
  .seq (.reg false [⟨none, .mov (.r 3)⟩,
    ⟨none, .mov (.r 0)⟩,
    ⟨none, .cvi .u8 (.l 0)⟩,
    ⟨none, .bsl 1 1 [.int .u8 0] [(0, 1, (.l 0))]⟩,
    ⟨none, .app 1 (.l 3) (.l 0)⟩,
    ⟨none, .mov (.l 0)⟩] [(3, 0)] []) (
  .exit 1)))) (
  .seq (.reg false [⟨none, .mov (.r 3)⟩,
    ⟨none, .mov (.r 3)⟩,
    ⟨none, .len (.l 0)⟩,
    ⟨none, .bin .sub (.l 0) (.v (.c (.d (.int .i64 1))))⟩,
    ⟨none, .cvi .u8 (.l 0)⟩,
    ⟨none, .bin .add (.v (.c (.d (.int .u8 128)))) (.l 0)⟩,
    ⟨none, .ixa 1 (.l 5) (.v (.c (.d (.int .i64 0))))⟩,
    ⟨none, .st 1 (.l 0) (.l 1)⟩] [] []) (
  .seq (.reg false [⟨none, .mov (.r 3)⟩,
    ⟨none, .hc (.v (.c (.d (.fn 200 [] [])))) [(.l 0)]⟩,
    ⟨none, .mov (.l 0)⟩,
    ⟨none, .mov (.v (.c (.d (.int .i64 0))))⟩] [(1, 1), (2, 0)] []) (
  .ret))))))⟩
end Mini
end Go.Proofs.YtjnghfhccjogeaaGreatDoor
