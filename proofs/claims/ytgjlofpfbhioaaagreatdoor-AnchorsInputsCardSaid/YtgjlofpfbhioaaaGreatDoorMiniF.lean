/-
  The code of the functions that the statements reach, in the abstract machine's form. Printed by a program of ours (tools/mini.py).
-/
import Derived.Test.YtgjlofpfbhioaaaGreatDoorMiniA
namespace Go.Proofs.YtgjlofpfbhioaaaGreatDoor
namespace Mini
/-- vidimus/vidimuslaw39.AnchorsInputs -/
def fn3 : Fn := ⟨2, 17, [0, 1, 2, 3, 4, 5, 6, 7, 8, 9, 10, 11, 27, 50, 84, 88, 92], [.r 4],
  .seq (.reg false [⟨none, .box (.r 0)⟩,
    ⟨none, .box (.r 1)⟩,
    ⟨none, .mov (.v (.c (.d (.bool false))))⟩] [(2, 2), (3, 1), (4, 0)] []) (
  .seq (.seq (.reg false [⟨none, .fa 1 (.r 2)⟩,
    ⟨none, .ld false 1 (.l 0)⟩,
    ⟨none, .len (.l 0)⟩,
    ⟨none, .bin .gtr (.l 0) (.v (.c (.d (.int .i64 20))))⟩,
    ⟨none, .mov (.l 0)⟩,
    ⟨some (0, false), .fa 0 (.r 3)⟩,
    ⟨some (1, false), .ld false 1 (.l 0)⟩,
    ⟨some (2, false), .len (.l 0)⟩,
    ⟨some (3, false), .bin .gtr (.l 0) (.v (.c (.d (.int .i64 20))))⟩,
    ⟨none, .pick (.l 4) (.v (.c (.d (.bool true)))) (.l 0)⟩,
    ⟨none, .mov (.l 0)⟩,
    ⟨some (0, false), .fa 0 (.r 2)⟩,
    ⟨some (1, false), .ld false 1 (.l 0)⟩,
    ⟨some (2, false), .lns (.l 0)⟩,
    ⟨some (3, false), .bin .gtr (.l 0) (.v (.c (.d (.int .i64 100))))⟩,
    ⟨none, .pick (.l 4) (.v (.c (.d (.bool true)))) (.l 0)⟩] [(12, 0)] []) (
  .cond (.r 12) (
  .seq (.reg false [⟨none, .vc 16 []⟩,
    ⟨none, .mov (.l 0)⟩] [(4, 0)] []) (
  .ret)) (
  .skip))) (
  .seq (.reg false [⟨none, .ld true 5 (.r 2)⟩,
    ⟨none, .ld true 4 (.r 3)⟩,
    ⟨none, .vc 17 [(.l 1), (.l 0)]⟩,
    ⟨none, .mov (.l 0)⟩,
    ⟨none, .ext (.l 0) 0⟩,
    ⟨none, .ext (.l 1) 1⟩,
    ⟨none, .pre⟩,
    ⟨none, .ini 4 (.l 2)⟩,
    ⟨none, .mov (.l 2)⟩] [(5, 1), (6, 0)] []) (
  .seq (.reg false [⟨none, .fa 1 (.r 2)⟩,
    ⟨none, .ld false 1 (.l 0)⟩,
    ⟨none, .fa 0 (.r 3)⟩,
    ⟨none, .ld false 1 (.l 0)⟩,
    ⟨none, .hc (.v (.c (.d (.fn 18 [] [])))) [(.l 2), (.l 0)]⟩,
    ⟨none, .mov (.l 0)⟩,
    ⟨none, .ext (.l 0) 0⟩,
    ⟨none, .ext (.l 1) 1⟩,
    ⟨none, .mov (.l 1)⟩,
    ⟨none, .mov (.l 1)⟩] [(7, 1), (8, 0)] []) (
  .seq (.reg true [⟨none, .fa 1 (.r 2)⟩,
    ⟨none, .ld false 1 (.l 0)⟩,
    ⟨none, .vc 19 [(.l 0)]⟩,
    ⟨none, .fa 0 (.r 3)⟩,
    ⟨none, .ld false 1 (.l 0)⟩,
    ⟨none, .vc 19 [(.l 0)]⟩,
    ⟨none, .mov (.l 3)⟩,
    ⟨none, .mov (.l 1)⟩] [(9, 1), (10, 0)] []) (
  .seq (.seq (.reg false [⟨none, .mov (.r 9)⟩,
    ⟨none, .bin .eql (.l 0) (.v (.c (.d (.int .i64 0))))⟩] [(13, 0)] []) (
  .cond (.r 13) (
  .reg false [⟨none, .mov (.r 10)⟩,
    ⟨none, .mov (.l 0)⟩] [(9, 0)] []) (
  .skip))) (
  .seq (.seq (.reg false [⟨none, .mov (.r 8)⟩,
    ⟨none, .mov (.r 9)⟩,
    ⟨none, .bin .neq (.l 1) (.l 0)⟩,
    ⟨none, .mov (.l 0)⟩,
    ⟨some (0, false), .mov (.r 8)⟩,
    ⟨some (1, false), .bin .neq (.l 0) (.v (.c (.d (.int .i64 0))))⟩,
    ⟨some (2, false), .mov (.l 0)⟩,
    ⟨some (0, true), .mov (.r 7)⟩,
    ⟨some (1, true), .len (.l 0)⟩,
    ⟨some (2, true), .bin .gtr (.l 0) (.v (.c (.d (.int .i64 0))))⟩,
    ⟨some (6, false), .pick (.l 3) (.l 0) (.v (.c (.d (.bool false))))⟩,
    ⟨none, .pick (.l 7) (.v (.c (.d (.bool true)))) (.l 0)⟩,
    ⟨none, .mov (.l 0)⟩,
    ⟨some (0, false), .mov (.r 8)⟩,
    ⟨some (1, false), .bin .eql (.l 0) (.v (.c (.d (.int .i64 0))))⟩,
    ⟨some (2, false), .mov (.l 0)⟩,
    ⟨some (0, true), .mov (.r 7)⟩,
    ⟨some (1, true), .fa 1 (.r 2)⟩,
    ⟨some (2, true), .ld false 1 (.l 0)⟩,
    ⟨some (3, true), .fa 0 (.r 3)⟩,
    ⟨some (4, true), .ld false 1 (.l 0)⟩,
    ⟨some (5, true), .vc 21 [(.l 2), (.l 0)]⟩,
    ⟨some (6, true), .vc 20 [(.l 5), (.l 0)]⟩,
    ⟨some (7, true), .bin .eql (.l 0) (.v (.c (.d (.int .i64 0))))⟩,
    ⟨some (11, false), .pick (.l 8) (.l 0) (.v (.c (.d (.bool false))))⟩,
    ⟨none, .pick (.l 12) (.v (.c (.d (.bool true)))) (.l 0)⟩,
    ⟨none, .mov (.l 0)⟩,
    ⟨some (0, false), .mov (.r 7)⟩,
    ⟨some (1, false), .cap (.l 0)⟩,
    ⟨some (2, false), .mov (.r 7)⟩,
    ⟨some (3, false), .len (.l 0)⟩,
    ⟨some (4, false), .bin .neq (.l 2) (.l 0)⟩,
    ⟨none, .pick (.l 5) (.v (.c (.d (.bool true)))) (.l 0)⟩] [(14, 0)] []) (
  .cond (.r 14) (
  .seq (.reg false [⟨none, .mov (.v (.c (.d (.bool false))))⟩] [(4, 0)] []) (
  .ret)) (
  .skip))) (
  .seq (.reg false [⟨none, .ld true 5 (.r 2)⟩,
    ⟨none, .vc 22 [(.l 0)]⟩,
    ⟨none, .mov (.l 0)⟩] [(11, 0)] []) (
  .seq (.seq (.reg false [⟨none, .mov (.r 11)⟩,
    ⟨none, .bin .eql (.l 0) (.v (.c (.d (.int .i64 0))))⟩] [(15, 0)] []) (
  .cond (.r 15) (
  .reg false [⟨none, .ld true 4 (.r 3)⟩,
    ⟨none, .vc 23 [(.l 0)]⟩,
    ⟨none, .mov (.l 0)⟩] [(11, 0)] []) (
  .skip))) (
  .seq (.seq (.reg false [⟨none, .mov (.r 11)⟩,
    ⟨none, .bin .neq (.l 0) (.v (.c (.d (.int .i64 0))))⟩] [(16, 0)] []) (
  .cond (.r 16) (
  .seq (.reg false [⟨none, .mov (.r 6)⟩,
    ⟨none, .mov (.r 11)⟩,
    ⟨none, .bin .eql (.l 1) (.l 0)⟩,
    ⟨none, .mov (.l 0)⟩,
    ⟨some (0, true), .ld true 4 (.r 5)⟩,
    ⟨some (1, true), .bld [.nils, .bool false, .bool false, .bool false] []⟩,
    ⟨some (2, true), .vc 24 [(.l 1), (.l 0)]⟩,
    ⟨some (3, true), .bin .eql (.l 0) (.v (.c (.d (.int .i64 1))))⟩,
    ⟨none, .pick (.l 4) (.l 0) (.v (.c (.d (.bool false))))⟩,
    ⟨none, .mov (.l 0)⟩,
    ⟨some (0, true), .vc 16 []⟩,
    ⟨none, .pick (.l 1) (.l 0) (.v (.c (.d (.bool false))))⟩,
    ⟨none, .mov (.l 0)⟩] [(4, 0)] []) (
  .ret)) (
  .skip))) (
  .seq (.reg true [⟨none, .mov (.r 6)⟩,
    ⟨none, .bin .eql (.l 0) (.v (.c (.d (.int .i64 0))))⟩,
    ⟨none, .mov (.l 0)⟩,
    ⟨some (0, true), .ld true 4 (.r 5)⟩,
    ⟨some (1, true), .fa 1 (.r 2)⟩,
    ⟨some (2, true), .ld false 1 (.l 0)⟩,
    ⟨some (3, true), .fa 0 (.r 3)⟩,
    ⟨some (4, true), .ld false 1 (.l 0)⟩,
    ⟨some (5, true), .vc 21 [(.l 2), (.l 0)]⟩,
    ⟨some (6, true), .fa 2 (.r 2)⟩,
    ⟨some (7, true), .ld false 1 (.l 0)⟩,
    ⟨some (8, true), .mov (.l 0)⟩,
    ⟨some (0, false), .fa 1 (.r 3)⟩,
    ⟨some (1, false), .ld false 1 (.l 0)⟩,
    ⟨some (11, true), .pick (.l 2) (.v (.c (.d (.bool true)))) (.l 0)⟩,
    ⟨some (12, true), .fa 3 (.r 2)⟩,
    ⟨some (13, true), .ld false 1 (.l 0)⟩,
    ⟨some (14, true), .mov (.l 0)⟩,
    ⟨some (0, false), .fa 2 (.r 3)⟩,
    ⟨some (1, false), .ld false 1 (.l 0)⟩,
    ⟨some (17, true), .pick (.l 2) (.v (.c (.d (.bool true)))) (.l 0)⟩,
    ⟨some (18, true), .fa 4 (.r 2)⟩,
    ⟨some (19, true), .ld false 1 (.l 0)⟩,
    ⟨some (20, true), .mov (.l 0)⟩,
    ⟨some (0, false), .fa 3 (.r 3)⟩,
    ⟨some (1, false), .ld false 1 (.l 0)⟩,
    ⟨some (23, true), .pick (.l 2) (.v (.c (.d (.bool true)))) (.l 0)⟩,
    ⟨some (24, true), .bld [.nils, .bool false, .bool false, .bool false] [(0, 1, (.l 18)), (1, 1, (.l 12)), (2, 1, (.l 6)), (3, 1, (.l 0))]⟩,
    ⟨some (25, true), .vc 24 [(.l 24), (.l 0)]⟩,
    ⟨some (26, true), .bin .eql (.l 0) (.v (.c (.d (.int .i64 1))))⟩,
    ⟨none, .pick (.l 27) (.l 0) (.v (.c (.d (.bool false))))⟩,
    ⟨none, .mov (.l 0)⟩,
    ⟨some (0, true), .vc 16 []⟩,
    ⟨none, .pick (.l 1) (.l 0) (.v (.c (.d (.bool false))))⟩,
    ⟨none, .mov (.l 0)⟩] [(4, 0)] []) (
  .ret)))))))))))⟩

/-- vidimus/vidimuslaw39.AnchorsBack -/
def fn4 : Fn := ⟨1, 11, [0, 2, 3, 4, 5, 6, 7, 8, 9, 10, 16], [.r 1],
  .seq (.reg false [⟨none, .mov (.v (.c (.d (.bool false))))⟩] [(1, 0)] []) (
  .seq (.reg false [⟨none, .mov (.r 0)⟩,
    ⟨none, .vc 25 [(.l 0)]⟩,
    ⟨none, .mov (.l 0)⟩] [(2, 0)] []) (
  .seq (.reg false [⟨none, .mov (.v (.c (.d (.str []))))⟩] [(3, 0)] []) (
  .seq (.seq (.reg false [⟨none, .mov (.v (.c (.d (.int .i64 0))))⟩] [(4, 0)] []) (
  .block 0 (
  .loop (some [2, 3, 4]) (
  .seq (.seq (.reg false [⟨none, .mov (.r 4)⟩,
    ⟨none, .mov (.r 2)⟩,
    ⟨none, .len (.l 0)⟩,
    ⟨none, .bin .lss (.l 2) (.l 0)⟩] [(10, 0)] []) (
  .cond (.r 10) (
  .skip) (
  .exit 0))) (
  .seq (.block 1 (
  .reg false [⟨none, .mov (.r 3)⟩,
    ⟨none, .mov (.r 2)⟩,
    ⟨none, .mov (.r 4)⟩,
    ⟨none, .ixa 5 (.l 1) (.l 0)⟩,
    ⟨none, .ld true 5 (.l 0)⟩,
    ⟨none, .vc 26 [(.l 0)]⟩,
    ⟨none, .bin .add (.l 5) (.l 0)⟩,
    ⟨none, .mov (.l 0)⟩] [(3, 0)] [])) (
  .reg false [⟨none, .mov (.r 4)⟩,
    ⟨none, .bin .add (.l 0) (.v (.c (.d (.int .i64 1))))⟩,
    ⟨none, .mov (.l 0)⟩] [(4, 0)] [])))))) (
  .seq (.reg false [⟨none, .mov (.r 2)⟩,
    ⟨none, .vc 27 [(.l 0)]⟩,
    ⟨none, .mov (.l 0)⟩,
    ⟨none, .ext (.l 0) 0⟩,
    ⟨none, .ext (.l 1) 1⟩,
    ⟨none, .mov (.l 1)⟩,
    ⟨none, .mov (.l 1)⟩] [(5, 1), (6, 0)] []) (
  .seq (.reg false [⟨none, .mov (.r 5)⟩,
    ⟨none, .hc (.v (.c (.d (.fn 28 [] [])))) [(.l 0)]⟩,
    ⟨none, .mov (.l 0)⟩,
    ⟨none, .ext (.l 0) 0⟩,
    ⟨none, .ext (.l 1) 1⟩,
    ⟨none, .ext (.l 2) 2⟩,
    ⟨none, .mov (.l 2)⟩,
    ⟨none, .mov (.l 2)⟩,
    ⟨none, .mov (.l 2)⟩] [(7, 2), (8, 1), (9, 0)] []) (
  .seq (.reg false [⟨none, .mov (.r 6)⟩,
    ⟨none, .bin .eql (.l 0) (.v (.c (.d (.int .i64 0))))⟩,
    ⟨none, .mov (.l 0)⟩,
    ⟨some (0, true), .mov (.r 5)⟩,
    ⟨some (1, true), .mov (.r 3)⟩,
    ⟨some (2, true), .bin .eql (.l 1) (.l 0)⟩,
    ⟨none, .pick (.l 3) (.l 0) (.v (.c (.d (.bool false))))⟩,
    ⟨none, .mov (.l 0)⟩,
    ⟨some (0, true), .mov (.r 9)⟩,
    ⟨some (1, true), .bin .eql (.l 0) (.v (.c (.d (.int .i64 0))))⟩,
    ⟨none, .pick (.l 2) (.l 0) (.v (.c (.d (.bool false))))⟩,
    ⟨none, .mov (.l 0)⟩,
    ⟨some (0, true), .mov (.r 8)⟩,
    ⟨some (1, true), .bin .eql (.l 0) (.v (.c (.d (.int .i64 0))))⟩,
    ⟨none, .pick (.l 2) (.l 0) (.v (.c (.d (.bool false))))⟩,
    ⟨none, .mov (.l 0)⟩,
    ⟨some (0, true), .mov (.r 7)⟩,
    ⟨some (1, true), .mov (.r 2)⟩,
    ⟨some (2, true), .vc 29 [(.l 1), (.l 0)]⟩,
    ⟨some (3, true), .bin .eql (.l 0) (.v (.c (.d (.int .i64 1))))⟩,
    ⟨none, .pick (.l 4) (.l 0) (.v (.c (.d (.bool false))))⟩,
    ⟨none, .mov (.l 0)⟩,
    ⟨some (0, true), .mov (.r 7)⟩,
    ⟨some (1, true), .cap (.l 0)⟩,
    ⟨some (2, true), .mov (.r 7)⟩,
    ⟨some (3, true), .len (.l 0)⟩,
    ⟨some (4, true), .bin .eql (.l 2) (.l 0)⟩,
    ⟨none, .pick (.l 5) (.l 0) (.v (.c (.d (.bool false))))⟩,
    ⟨none, .mov (.l 0)⟩,
    ⟨some (0, true), .vc 16 []⟩,
    ⟨none, .pick (.l 1) (.l 0) (.v (.c (.d (.bool false))))⟩,
    ⟨none, .mov (.l 0)⟩] [(1, 0)] []) (
  .ret)))))))⟩

/-- vidimus/vidimuslaw39.AnchorsParse -/
def fn5 : Fn := ⟨1, 20, [0, 2, 3, 4, 5, 6, 7, 8, 9, 10, 11, 12, 13, 14, 17, 34, 48, 67, 86, 92], [.r 1],
  .seq (.reg false [⟨none, .mov (.v (.c (.d (.bool false))))⟩] [(1, 0)] []) (
  .seq (.seq (.reg false [⟨none, .mov (.r 0)⟩,
    ⟨none, .lns (.l 0)⟩,
    ⟨none, .bin .gtr (.l 0) (.v (.c (.d (.int .i64 300))))⟩] [(14, 0)] []) (
  .cond (.r 14) (
  .seq (.reg false [⟨none, .vc 16 []⟩,
    ⟨none, .mov (.l 0)⟩] [(1, 0)] []) (
  .ret)) (
  .skip))) (
  .seq (.reg false [⟨none, .mov (.r 0)⟩,
    ⟨none, .vc 28 [(.l 0)]⟩,
    ⟨none, .mov (.l 0)⟩,
    ⟨none, .ext (.l 0) 0⟩,
    ⟨none, .ext (.l 1) 1⟩,
    ⟨none, .ext (.l 2) 2⟩,
    ⟨none, .mov (.l 2)⟩,
    ⟨none, .mov (.l 2)⟩,
    ⟨none, .mov (.l 2)⟩] [(2, 2), (3, 1), (4, 0)] []) (
  .seq (.reg false [⟨none, .mov (.r 0)⟩,
    ⟨none, .vc 30 [(.l 0), (.v (.c (.d (.int .u8 10))))]⟩,
    ⟨none, .mov (.l 0)⟩] [(5, 0)] []) (
  .seq (.reg false [⟨none, .mov (.v (.c (.d (.nils))))⟩] [(6, 0)] []) (
  .seq (.reg false [⟨none, .mov (.v (.c (.d (.int .i64 0))))⟩,
    ⟨none, .mov (.v (.c (.d (.int .i64 0))))⟩] [(7, 1), (8, 0)] []) (
  .seq (.seq (.reg false [⟨none, .mov (.v (.c (.d (.int .i64 0))))⟩] [(9, 0)] []) (
  .block 0 (
  .seq (.fresh 6 none 5) (
  .loop (some [0, 2, 3, 4, 5, 6, 7, 8, 9]) (
  .seq (.seq (.reg false [⟨none, .mov (.r 9)⟩,
    ⟨none, .mov (.r 5)⟩,
    ⟨none, .len (.l 0)⟩,
    ⟨none, .bin .lss (.l 2) (.l 0)⟩,
    ⟨none, .mov (.l 0)⟩,
    ⟨some (0, true), .mov (.r 8)⟩,
    ⟨some (1, true), .bin .eql (.l 0) (.v (.c (.d (.int .i64 0))))⟩,
    ⟨none, .pick (.l 2) (.l 0) (.v (.c (.d (.bool false))))⟩] [(15, 0)] []) (
  .cond (.r 15) (
  .skip) (
  .exit 0))) (
  .seq (.block 1 (
  .seq (.seq (.reg false [⟨none, .mov (.r 9)⟩,
    ⟨none, .mov (.r 5)⟩,
    ⟨none, .len (.l 0)⟩,
    ⟨none, .bin .sub (.l 0) (.v (.c (.d (.int .i64 1))))⟩,
    ⟨none, .bin .eql (.l 3) (.l 0)⟩,
    ⟨none, .mov (.l 0)⟩,
    ⟨some (0, true), .mov (.r 5)⟩,
    ⟨some (1, true), .mov (.r 9)⟩,
    ⟨some (2, true), .ixa 1 (.l 1) (.l 0)⟩,
    ⟨some (3, true), .ld false 1 (.l 0)⟩,
    ⟨some (4, true), .bin .eql (.l 0) (.v (.c (.d (.str []))))⟩,
    ⟨none, .pick (.l 5) (.l 0) (.v (.c (.d (.bool false))))⟩] [(16, 0)] []) (
  .cond (.r 16) (
  .exit 0) (
  .skip))) (
  .seq (.reg false [⟨none, .mov (.r 5)⟩,
    ⟨none, .mov (.r 9)⟩,
    ⟨none, .ixa 1 (.l 1) (.l 0)⟩,
    ⟨none, .ld false 1 (.l 0)⟩,
    ⟨none, .vc 31 [(.l 0)]⟩,
    ⟨none, .mov (.l 0)⟩,
    ⟨none, .ext (.l 0) 0⟩,
    ⟨none, .ext (.l 1) 1⟩,
    ⟨none, .pre⟩,
    ⟨none, .ini 5 (.l 2)⟩,
    ⟨none, .mov (.l 2)⟩] [(10, 1), (11, 0)] []) (
  .seq (.reg false [⟨none, .mov (.r 9)⟩,
    ⟨none, .bin .add (.l 0) (.v (.c (.d (.int .i64 1))))⟩,
    ⟨none, .mov (.l 0)⟩] [(7, 0)] []) (
  .seq (.seq (.reg false [⟨none, .mov (.r 11)⟩,
    ⟨none, .un .not (.l 0)⟩,
    ⟨none, .mov (.l 0)⟩,
    ⟨some (0, false), .mov (.r 9)⟩,
    ⟨some (1, false), .mov (.r 5)⟩,
    ⟨some (2, false), .len (.l 0)⟩,
    ⟨some (3, false), .bin .sub (.l 0) (.v (.c (.d (.int .i64 1))))⟩,
    ⟨some (4, false), .bin .eql (.l 3) (.l 0)⟩,
    ⟨none, .pick (.l 5) (.v (.c (.d (.bool true)))) (.l 0)⟩] [(17, 0)] []) (
  .cond (.r 17) (
  .reg false [⟨none, .mov (.v (.c (.d (.int .i64 6))))⟩] [(8, 0)] []) (
  .seq (.reg false [⟨none, .ld true 5 (.r 10)⟩,
    ⟨none, .vc 22 [(.l 0)]⟩,
    ⟨none, .mov (.l 0)⟩] [(8, 0)] []) (
  .seq (.reg true [⟨none, .mov (.r 8)⟩,
    ⟨none, .bin .eql (.l 0) (.v (.c (.d (.int .i64 0))))⟩,
    ⟨none, .mov (.l 0)⟩,
    ⟨some (0, true), .mov (.r 9)⟩,
    ⟨some (1, true), .bin .gtr (.l 0) (.v (.c (.d (.int .i64 0))))⟩,
    ⟨none, .pick (.l 2) (.l 0) (.v (.c (.d (.bool false))))⟩,
    ⟨none, .mov (.l 0)⟩,
    ⟨some (0, true), .mov (.r 6)⟩,
    ⟨some (1, true), .mov (.r 9)⟩,
    ⟨some (2, true), .bin .sub (.l 0) (.v (.c (.d (.int .i64 1))))⟩,
    ⟨some (3, true), .ixa 5 (.l 2) (.l 0)⟩,
    ⟨some (4, true), .fa 0 (.l 0)⟩,
    ⟨some (5, true), .ld false 1 (.l 0)⟩,
    ⟨some (6, true), .fa 0 (.r 10)⟩,
    ⟨some (7, true), .ld false 1 (.l 0)⟩,
    ⟨some (8, true), .bin .geq (.l 2) (.l 0)⟩,
    ⟨none, .pick (.l 9) (.l 0) (.v (.c (.d (.bool false))))⟩] [(18, 0)] []) (
  .cond (.r 18) (
  .reg false [⟨none, .mov (.v (.c (.d (.int .i64 13))))⟩] [(8, 0)] []) (
  .skip)))))) (
  .reg false [⟨none, .mov (.r 6)⟩,
    ⟨none, .ld true 5 (.r 10)⟩,
    ⟨none, .bsl 1 5 [.str [], .nils, .bool false, .bool false, .bool false] [(0, 5, (.l 0))]⟩,
    ⟨none, .app 5 (.l 2) (.l 0)⟩,
    ⟨none, .mov (.l 0)⟩] [(6, 0)] [])))))) (
  .reg false [⟨none, .mov (.r 9)⟩,
    ⟨none, .bin .add (.l 0) (.v (.c (.d (.int .i64 1))))⟩,
    ⟨none, .mov (.l 0)⟩] [(9, 0)] []))))))) (
  .seq (.seq (.reg false [⟨none, .mov (.r 8)⟩,
    ⟨none, .bin .neq (.l 0) (.v (.c (.d (.int .i64 0))))⟩] [(19, 0)] []) (
  .cond (.r 19) (
  .seq (.reg false [⟨none, .mov (.r 4)⟩,
    ⟨none, .mov (.r 8)⟩,
    ⟨none, .bin .eql (.l 1) (.l 0)⟩,
    ⟨none, .mov (.l 0)⟩,
    ⟨some (0, true), .mov (.r 3)⟩,
    ⟨some (1, true), .mov (.r 7)⟩,
    ⟨some (2, true), .bin .eql (.l 1) (.l 0)⟩,
    ⟨none, .pick (.l 3) (.l 0) (.v (.c (.d (.bool false))))⟩,
    ⟨none, .mov (.l 0)⟩,
    ⟨some (0, true), .mov (.r 2)⟩,
    ⟨some (1, true), .len (.l 0)⟩,
    ⟨some (2, true), .bin .eql (.l 0) (.v (.c (.d (.int .i64 0))))⟩,
    ⟨none, .pick (.l 3) (.l 0) (.v (.c (.d (.bool false))))⟩,
    ⟨none, .mov (.l 0)⟩,
    ⟨some (0, true), .vc 16 []⟩,
    ⟨none, .pick (.l 1) (.l 0) (.v (.c (.d (.bool false))))⟩,
    ⟨none, .mov (.l 0)⟩] [(1, 0)] []) (
  .ret)) (
  .skip))) (
  .seq (.reg false [⟨none, .mov (.r 2)⟩,
    ⟨none, .vc 27 [(.l 0)]⟩,
    ⟨none, .mov (.l 0)⟩,
    ⟨none, .ext (.l 0) 0⟩,
    ⟨none, .ext (.l 1) 1⟩,
    ⟨none, .mov (.l 1)⟩,
    ⟨none, .mov (.l 1)⟩] [(12, 1), (13, 0)] []) (
  .seq (.reg false [⟨none, .mov (.r 4)⟩,
    ⟨none, .bin .eql (.l 0) (.v (.c (.d (.int .i64 0))))⟩,
    ⟨none, .mov (.l 0)⟩,
    ⟨some (0, true), .mov (.r 3)⟩,
    ⟨some (1, true), .bin .eql (.l 0) (.v (.c (.d (.int .i64 0))))⟩,
    ⟨none, .pick (.l 2) (.l 0) (.v (.c (.d (.bool false))))⟩,
    ⟨none, .mov (.l 0)⟩,
    ⟨some (0, true), .mov (.r 2)⟩,
    ⟨some (1, true), .mov (.r 6)⟩,
    ⟨some (2, true), .vc 29 [(.l 1), (.l 0)]⟩,
    ⟨some (3, true), .bin .eql (.l 0) (.v (.c (.d (.int .i64 1))))⟩,
    ⟨none, .pick (.l 4) (.l 0) (.v (.c (.d (.bool false))))⟩,
    ⟨none, .mov (.l 0)⟩,
    ⟨some (0, true), .mov (.r 13)⟩,
    ⟨some (1, true), .bin .eql (.l 0) (.v (.c (.d (.int .i64 0))))⟩,
    ⟨none, .pick (.l 2) (.l 0) (.v (.c (.d (.bool false))))⟩,
    ⟨none, .mov (.l 0)⟩,
    ⟨some (0, true), .mov (.r 12)⟩,
    ⟨some (1, true), .mov (.r 0)⟩,
    ⟨some (2, true), .bin .eql (.l 1) (.l 0)⟩,
    ⟨none, .pick (.l 3) (.l 0) (.v (.c (.d (.bool false))))⟩,
    ⟨none, .mov (.l 0)⟩,
    ⟨some (0, true), .vc 16 []⟩,
    ⟨none, .pick (.l 1) (.l 0) (.v (.c (.d (.bool false))))⟩,
    ⟨none, .mov (.l 0)⟩] [(1, 0)] []) (
  .ret))))))))))⟩

/-- vidimus/vidimuslaw39.AnchorsFaults -/
def fn6 : Fn := ⟨3, 16, [0, 1, 2, 6, 7, 8, 9, 10, 11, 12, 13, 14, 15, 20, 32, 37], [.r 3],
  .seq (.reg false [⟨none, .mov (.v (.c (.d (.bool false))))⟩] [(3, 0)] []) (
  .seq (.reg false [⟨none, .mov (.r 0)⟩,
    ⟨none, .vc 25 [(.l 0)]⟩,
    ⟨none, .mov (.l 0)⟩] [(4, 0)] []) (
  .seq (.seq (.reg false [⟨none, .mov (.r 4)⟩,
    ⟨none, .len (.l 0)⟩,
    ⟨none, .bin .eql (.l 0) (.v (.c (.d (.int .i64 0))))⟩] [(13, 0)] []) (
  .cond (.r 13) (
  .seq (.reg false [⟨none, .vc 16 []⟩,
    ⟨none, .mov (.l 0)⟩] [(3, 0)] []) (
  .ret)) (
  .skip))) (
  .seq (.reg false [⟨none, .mov (.r 1)⟩,
    ⟨none, .cvi .i64 (.l 0)⟩,
    ⟨none, .mov (.r 4)⟩,
    ⟨none, .len (.l 0)⟩,
    ⟨none, .bin .rem (.l 2) (.l 0)⟩,
    ⟨none, .mov (.l 0)⟩] [(5, 0)] []) (
  .seq (.reg false [⟨none, .bsl 14 1 [.str []] [(0, 1, (.v (.c (.d (.str [97, 110, 99, 104, 111, 114, 32, 10]))))), (1, 1, (.v (.c (.d (.str [97, 110, 99, 104, 111, 114, 115, 32, 97, 32, 49, 46, 50, 10]))))), (2, 1, (.v (.c (.d (.str [97, 110, 99, 104, 111, 114, 32, 32, 49, 46, 50, 10]))))), (3, 1, (.v (.c (.d (.str [97, 110, 99, 104, 111, 114, 32, 97, 32, 49, 46, 50, 32, 10]))))), (4, 1, (.v (.c (.d (.str [97, 110, 99, 104, 111, 114, 32, 97, 32, 49, 46, 50, 44, 10]))))), (5, 1, (.v (.c (.d (.str [97, 110, 99, 104, 111, 114, 32, 97, 32, 51, 46, 49, 10]))))), (6, 1, (.v (.c (.d (.str [97, 110, 99, 104, 111, 114, 32, 97, 32, 48, 49, 46, 50, 10]))))), (7, 1, (.v (.c (.d (.str [97, 110, 99, 104, 111, 114, 32, 97, 32, 49, 46, 50, 32, 101, 120, 112, 108, 105, 99, 105, 116, 32, 101, 120, 112, 108, 105, 99, 105, 116, 10]))))), (8, 1, (.v (.c (.d (.str [97, 110, 99, 104, 111, 114, 32, 97, 32, 49, 46, 50, 32, 110, 111, 97, 110, 121, 32, 110, 111, 109, 97, 112, 112, 105, 110, 103, 10]))))), (9, 1, (.v (.c (.d (.str [97, 110, 99, 104, 111, 114, 32, 65, 32, 49, 46, 50, 10]))))), (10, 1, (.v (.c (.d (.str [97, 110, 99, 104, 111, 114, 32, 49, 97, 32, 49, 46, 50, 10]))))), (11, 1, (.v (.c (.d (.str [97, 110, 99, 104, 111, 114, 32, 97, 95, 32, 49, 46, 50, 10]))))), (12, 1, (.v (.c (.d (.str [10]))))), (13, 1, (.v (.c (.d (.str [97, 110, 99, 104, 111, 114, 32, 122, 32, 49, 46, 50, 32, 110, 111, 97, 110, 121, 32, 120, 10])))))]⟩,
    ⟨none, .mov (.l 0)⟩] [(6, 0)] []) (
  .seq (.reg false [⟨none, .bsl 14 1 [.int .i64 0] [(0, 1, (.v (.c (.d (.int .i64 6))))), (1, 1, (.v (.c (.d (.int .i64 6))))), (2, 1, (.v (.c (.d (.int .i64 18))))), (3, 1, (.v (.c (.d (.int .i64 6))))), (4, 1, (.v (.c (.d (.int .i64 6))))), (5, 1, (.v (.c (.d (.int .i64 6))))), (6, 1, (.v (.c (.d (.int .i64 6))))), (7, 1, (.v (.c (.d (.int .i64 6))))), (8, 1, (.v (.c (.d (.int .i64 6))))), (9, 1, (.v (.c (.d (.int .i64 18))))), (10, 1, (.v (.c (.d (.int .i64 18))))), (11, 1, (.v (.c (.d (.int .i64 18))))), (12, 1, (.v (.c (.d (.int .i64 6))))), (13, 1, (.v (.c (.d (.int .i64 6)))))]⟩,
    ⟨none, .mov (.l 0)⟩] [(7, 0)] []) (
  .seq (.reg false [⟨none, .mov (.v (.c (.d (.str []))))⟩] [(8, 0)] []) (
  .seq (.seq (.reg false [⟨none, .mov (.v (.c (.d (.int .i64 0))))⟩] [(9, 0)] []) (
  .block 0 (
  .loop (some [2, 4, 5, 6, 7, 8, 9]) (
  .seq (.seq (.reg false [⟨none, .mov (.r 9)⟩,
    ⟨none, .mov (.r 4)⟩,
    ⟨none, .len (.l 0)⟩,
    ⟨none, .bin .lss (.l 2) (.l 0)⟩] [(14, 0)] []) (
  .cond (.r 14) (
  .skip) (
  .exit 0))) (
  .seq (.block 1 (
  .seq (.reg false [⟨none, .mov (.r 9)⟩,
    ⟨none, .mov (.r 5)⟩,
    ⟨none, .bin .eql (.l 1) (.l 0)⟩] [(15, 0)] []) (
  .cond (.r 15) (
  .reg false [⟨none, .mov (.r 8)⟩,
    ⟨none, .mov (.r 6)⟩,
    ⟨none, .mov (.r 2)⟩,
    ⟨none, .cvi .i64 (.l 0)⟩,
    ⟨none, .mov (.r 6)⟩,
    ⟨none, .len (.l 0)⟩,
    ⟨none, .bin .rem (.l 2) (.l 0)⟩,
    ⟨none, .ixa 1 (.l 5) (.l 0)⟩,
    ⟨none, .ld false 1 (.l 0)⟩,
    ⟨none, .bin .add (.l 8) (.l 0)⟩,
    ⟨none, .mov (.l 0)⟩] [(8, 0)] []) (
  .reg false [⟨none, .mov (.r 8)⟩,
    ⟨none, .mov (.r 4)⟩,
    ⟨none, .mov (.r 9)⟩,
    ⟨none, .ixa 5 (.l 1) (.l 0)⟩,
    ⟨none, .ld true 5 (.l 0)⟩,
    ⟨none, .vc 26 [(.l 0)]⟩,
    ⟨none, .bin .add (.l 5) (.l 0)⟩,
    ⟨none, .mov (.l 0)⟩] [(8, 0)] [])))) (
  .reg false [⟨none, .mov (.r 9)⟩,
    ⟨none, .bin .add (.l 0) (.v (.c (.d (.int .i64 1))))⟩,
    ⟨none, .mov (.l 0)⟩] [(9, 0)] [])))))) (
  .seq (.reg false [⟨none, .mov (.r 8)⟩,
    ⟨none, .vc 28 [(.l 0)]⟩,
    ⟨none, .mov (.l 0)⟩,
    ⟨none, .ext (.l 0) 0⟩,
    ⟨none, .ext (.l 1) 1⟩,
    ⟨none, .ext (.l 2) 2⟩,
    ⟨none, .mov (.l 2)⟩,
    ⟨none, .mov (.l 2)⟩,
    ⟨none, .mov (.l 2)⟩] [(10, 2), (11, 1), (12, 0)] []) (
  .seq (.reg false [⟨none, .mov (.r 12)⟩,
    ⟨none, .mov (.r 7)⟩,
    ⟨none, .mov (.r 2)⟩,
    ⟨none, .cvi .i64 (.l 0)⟩,
    ⟨none, .mov (.r 6)⟩,
    ⟨none, .len (.l 0)⟩,
    ⟨none, .bin .rem (.l 2) (.l 0)⟩,
    ⟨none, .ixa 1 (.l 5) (.l 0)⟩,
    ⟨none, .ld false 1 (.l 0)⟩,
    ⟨none, .bin .eql (.l 8) (.l 0)⟩,
    ⟨none, .mov (.l 0)⟩,
    ⟨some (0, true), .mov (.r 11)⟩,
    ⟨some (1, true), .mov (.r 5)⟩,
    ⟨some (2, true), .bin .add (.l 0) (.v (.c (.d (.int .i64 1))))⟩,
    ⟨some (3, true), .bin .eql (.l 2) (.l 0)⟩,
    ⟨none, .pick (.l 4) (.l 0) (.v (.c (.d (.bool false))))⟩,
    ⟨none, .mov (.l 0)⟩,
    ⟨some (0, true), .mov (.r 10)⟩,
    ⟨some (1, true), .len (.l 0)⟩,
    ⟨some (2, true), .bin .eql (.l 0) (.v (.c (.d (.int .i64 0))))⟩,
    ⟨none, .pick (.l 3) (.l 0) (.v (.c (.d (.bool false))))⟩,
    ⟨none, .mov (.l 0)⟩,
    ⟨some (0, true), .vc 16 []⟩,
    ⟨none, .pick (.l 1) (.l 0) (.v (.c (.d (.bool false))))⟩,
    ⟨none, .mov (.l 0)⟩] [(3, 0)] []) (
  .ret))))))))))⟩

/-- vidimus/vidimuslaw39.AnchorsKnown -/
def fn7 : Fn := ⟨0, 27, [0, 1, 2, 3, 4, 5, 6, 8, 9, 10, 11, 12, 13, 14, 15, 17, 19, 20, 22, 23, 61, 63, 114, 137, 139, 145, 159], [.r 0],
  .seq (.reg false [⟨none, .mov (.v (.c (.d (.bool false))))⟩] [(0, 0)] []) (
  .seq (.reg false [⟨none, .vc 32 [(.v (.c (.d (.int .u8 0))))]⟩,
    ⟨none, .bsl 1 17 [.int .u8 0, .int .u32 0, .int .u32 0, .int .u32 0, .int .u32 0, .int .u32 0, .int .u32 0, .int .u32 0, .int .u32 0, .int .u32 0, .int .u32 0, .int .u32 0, .int .u32 0, .int .u32 0, .int .u32 0, .int .u32 0, .int .u32 0] [(0, 17, (.l 0))]⟩,
    ⟨none, .mov (.l 0)⟩] [(1, 0)] []) (
  .seq (.reg false [⟨none, .mov (.v (.c (.d (.str [97, 50, 51, 52, 53, 54, 55, 56, 57, 48, 49, 50, 51, 52, 53, 54, 55, 56, 57, 48, 49, 50, 51, 52, 53, 54, 55, 56, 57, 48, 49, 50]))))⟩] [(2, 0)] []) (
  .seq (.seq (.reg false [⟨none, .mov (.r 2)⟩,
    ⟨none, .mov (.r 1)⟩,
    ⟨none, .bld [.str [], .nils, .bool false, .bool false, .bool false] [(0, 1, (.l 1)), (1, 1, (.l 0))]⟩,
    ⟨none, .vc 33 [(.l 0)]⟩,
    ⟨none, .bin .neq (.l 0) (.v (.c (.d (.int .i64 0))))⟩,
    ⟨none, .mov (.l 0)⟩,
    ⟨some (0, false), .mov (.r 2)⟩,
    ⟨some (1, false), .bin .add (.l 0) (.v (.c (.d (.str [51]))))⟩,
    ⟨some (2, false), .mov (.r 1)⟩,
    ⟨some (3, false), .bld [.str [], .nils, .bool false, .bool false, .bool false] [(0, 1, (.l 1)), (1, 1, (.l 0))]⟩,
    ⟨some (4, false), .vc 33 [(.l 0)]⟩,
    ⟨some (5, false), .bin .neq (.l 0) (.v (.c (.d (.int .i64 18))))⟩,
    ⟨none, .pick (.l 6) (.v (.c (.d (.bool true)))) (.l 0)⟩,
    ⟨none, .mov (.l 0)⟩,
    ⟨some (0, false), .mov (.r 1)⟩,
    ⟨some (1, false), .bld [.str [], .nils, .bool false, .bool false, .bool false] [(0, 1, (.v (.c (.d (.str [97, 45]))))), (1, 1, (.l 0))]⟩,
    ⟨some (2, false), .vc 33 [(.l 0)]⟩,
    ⟨some (3, false), .bin .neq (.l 0) (.v (.c (.d (.int .i64 0))))⟩,
    ⟨none, .pick (.l 4) (.v (.c (.d (.bool true)))) (.l 0)⟩,
    ⟨none, .mov (.l 0)⟩,
    ⟨some (0, false), .mov (.r 1)⟩,
    ⟨some (1, false), .bld [.str [], .nils, .bool false, .bool false, .bool false] [(0, 1, (.v (.c (.d (.str [45, 97]))))), (1, 1, (.l 0))]⟩,
    ⟨some (2, false), .vc 33 [(.l 0)]⟩,
    ⟨some (3, false), .bin .neq (.l 0) (.v (.c (.d (.int .i64 18))))⟩,
    ⟨none, .pick (.l 4) (.v (.c (.d (.bool true)))) (.l 0)⟩,
    ⟨none, .mov (.l 0)⟩,
    ⟨some (0, false), .mov (.r 1)⟩,
    ⟨some (1, false), .bld [.str [], .nils, .bool false, .bool false, .bool false] [(1, 1, (.l 0))]⟩,
    ⟨some (2, false), .vc 33 [(.l 0)]⟩,
    ⟨some (3, false), .bin .neq (.l 0) (.v (.c (.d (.int .i64 18))))⟩,
    ⟨none, .pick (.l 4) (.v (.c (.d (.bool true)))) (.l 0)⟩,
    ⟨none, .mov (.l 0)⟩,
    ⟨some (0, false), .bld [.str [], .nils, .bool false, .bool false, .bool false] [(0, 1, (.v (.c (.d (.str [97])))))]⟩,
    ⟨some (1, false), .vc 33 [(.l 0)]⟩,
    ⟨some (2, false), .bin .neq (.l 0) (.v (.c (.d (.int .i64 17))))⟩,
    ⟨none, .pick (.l 3) (.v (.c (.d (.bool true)))) (.l 0)⟩] [(20, 0)] []) (
  .cond (.r 20) (
  .seq (.reg false [⟨none, .mov (.v (.c (.d (.bool false))))⟩] [(0, 0)] []) (
  .ret)) (
  .skip))) (
  .seq (.reg false [⟨none, .mov (.v (.c (.d (.nils))))⟩] [(3, 0)] []) (
  .seq (.reg false [⟨none, .mov (.v (.c (.d (.str []))))⟩] [(4, 0)] []) (
  .seq (.seq (.reg false [⟨none, .mov (.v (.c (.d (.int .i64 0))))⟩] [(5, 0)] []) (
  .block 0 (
  .seq (.fresh 3 none 5) (
  .loop (some [1, 3, 4, 5]) (
  .seq (.seq (.reg false [⟨none, .mov (.r 5)⟩,
    ⟨none, .bin .lss (.l 0) (.v (.c (.d (.int .i64 257))))⟩] [(21, 0)] []) (
  .cond (.r 21) (
  .skip) (
  .exit 0))) (
  .seq (.block 1 (
  .seq (.reg false [⟨none, .mov (.r 5)⟩,
    ⟨none, .bin .quo (.l 0) (.v (.c (.d (.int .i64 100))))⟩,
    ⟨none, .bin .add (.v (.c (.d (.int .i64 48)))) (.l 0)⟩,
    ⟨none, .cvi .u8 (.l 0)⟩,
    ⟨none, .mov (.r 5)⟩,
    ⟨none, .bin .quo (.l 0) (.v (.c (.d (.int .i64 10))))⟩,
    ⟨none, .bin .rem (.l 0) (.v (.c (.d (.int .i64 10))))⟩,
    ⟨none, .bin .add (.v (.c (.d (.int .i64 48)))) (.l 0)⟩,
    ⟨none, .cvi .u8 (.l 0)⟩,
    ⟨none, .mov (.r 5)⟩,
    ⟨none, .bin .rem (.l 0) (.v (.c (.d (.int .i64 10))))⟩,
    ⟨none, .bin .add (.v (.c (.d (.int .i64 48)))) (.l 0)⟩,
    ⟨none, .cvi .u8 (.l 0)⟩,
    ⟨none, .bsl 3 1 [.int .u8 0] [(0, 1, (.l 9)), (1, 1, (.l 4)), (2, 1, (.l 0))]⟩,
    ⟨none, .b2s (.l 0)⟩,
    ⟨none, .bin .add (.v (.c (.d (.str [110])))) (.l 0)⟩,
    ⟨none, .mov (.r 1)⟩,
    ⟨none, .bld [.str [], .nils, .bool false, .bool false, .bool false] [(0, 1, (.l 1)), (1, 1, (.l 0))]⟩,
    ⟨none, .pre⟩,
    ⟨none, .ini 5 (.l 1)⟩] [(6, 0)] []) (
  .seq (.reg false [⟨none, .mov (.r 3)⟩,
    ⟨none, .ld true 5 (.r 6)⟩,
    ⟨none, .bsl 1 5 [.str [], .nils, .bool false, .bool false, .bool false] [(0, 5, (.l 0))]⟩,
    ⟨none, .app 5 (.l 2) (.l 0)⟩,
    ⟨none, .mov (.l 0)⟩] [(3, 0)] []) (
  .reg false [⟨none, .mov (.r 4)⟩,
    ⟨none, .ld true 5 (.r 6)⟩,
    ⟨none, .vc 26 [(.l 0)]⟩,
    ⟨none, .bin .add (.l 2) (.l 0)⟩,
    ⟨none, .mov (.l 0)⟩] [(4, 0)] [])))) (
  .reg false [⟨none, .mov (.r 5)⟩,
    ⟨none, .bin .add (.l 0) (.v (.c (.d (.int .i64 1))))⟩,
    ⟨none, .mov (.l 0)⟩] [(5, 0)] []))))))) (
  .seq (.reg false [⟨none, .mov (.r 4)⟩,
    ⟨none, .vc 28 [(.l 0)]⟩,
    ⟨none, .mov (.l 0)⟩,
    ⟨none, .ext (.l 0) 0⟩,
    ⟨none, .ext (.l 1) 1⟩,
    ⟨none, .ext (.l 2) 2⟩,
    ⟨none, .mov (.l 2)⟩,
    ⟨none, .mov (.l 2)⟩,
    ⟨none, .mov (.l 2)⟩] [(7, 1), (8, 0)] []) (
  .seq (.seq (.reg false [⟨none, .mov (.r 8)⟩,
    ⟨none, .bin .neq (.l 0) (.v (.c (.d (.int .i64 3))))⟩,
    ⟨none, .mov (.l 0)⟩,
    ⟨some (0, false), .mov (.r 7)⟩,
    ⟨some (1, false), .bin .neq (.l 0) (.v (.c (.d (.int .i64 257))))⟩,
    ⟨none, .pick (.l 2) (.v (.c (.d (.bool true)))) (.l 0)⟩,
    ⟨none, .mov (.l 0)⟩,
    ⟨some (0, false), .mov (.r 3)⟩,
    ⟨some (1, false), .vc 34 [(.l 0)]⟩,
    ⟨some (2, false), .bin .neq (.l 0) (.v (.c (.d (.int .i64 3))))⟩,
    ⟨none, .pick (.l 3) (.v (.c (.d (.bool true)))) (.l 0)⟩,
    ⟨none, .mov (.l 0)⟩,
    ⟨some (0, false), .mov (.r 3)⟩,
    ⟨some (1, false), .slc 5 (.l 0) none (some (.v (.c (.d (.int .i64 256))))) none⟩,
    ⟨some (2, false), .vc 34 [(.l 0)]⟩,
    ⟨some (3, false), .bin .neq (.l 0) (.v (.c (.d (.int .i64 0))))⟩,
    ⟨none, .pick (.l 4) (.v (.c (.d (.bool true)))) (.l 0)⟩] [(22, 0)] []) (
  .cond (.r 22) (
  .seq (.reg false [⟨none, .mov (.v (.c (.d (.bool false))))⟩] [(0, 0)] []) (
  .ret)) (
  .skip))) (
  .seq (.reg false [⟨none, .mov (.r 4)⟩,
    ⟨none, .mov (.r 4)⟩,
    ⟨none, .lns (.l 0)⟩,
    ⟨none, .bin .sub (.l 0) (.v (.c (.d (.int .i64 18))))⟩,
    ⟨none, .sls (.l 3) none (some (.l 0))⟩,
    ⟨none, .vc 28 [(.l 0)]⟩,
    ⟨none, .mov (.l 0)⟩,
    ⟨none, .ext (.l 0) 0⟩,
    ⟨none, .ext (.l 1) 1⟩,
    ⟨none, .ext (.l 2) 2⟩,
    ⟨none, .mov (.l 2)⟩,
    ⟨none, .mov (.l 2)⟩,
    ⟨none, .mov (.l 2)⟩] [(9, 2), (7, 1), (8, 0)] []) (
  .seq (.seq (.reg false [⟨none, .mov (.r 8)⟩,
    ⟨none, .bin .neq (.l 0) (.v (.c (.d (.int .i64 0))))⟩,
    ⟨none, .mov (.l 0)⟩,
    ⟨some (0, false), .mov (.r 7)⟩,
    ⟨some (1, false), .bin .neq (.l 0) (.v (.c (.d (.int .i64 0))))⟩,
    ⟨none, .pick (.l 2) (.v (.c (.d (.bool true)))) (.l 0)⟩,
    ⟨none, .mov (.l 0)⟩,
    ⟨some (0, false), .mov (.r 9)⟩,
    ⟨some (1, false), .mov (.r 3)⟩,
    ⟨some (2, false), .slc 5 (.l 0) none (some (.v (.c (.d (.int .i64 256))))) none⟩,
    ⟨some (3, false), .vc 29 [(.l 2), (.l 0)]⟩,
    ⟨some (4, false), .bin .eql (.l 0) (.v (.c (.d (.int .i64 0))))⟩,
    ⟨none, .pick (.l 5) (.v (.c (.d (.bool true)))) (.l 0)⟩] [(23, 0)] []) (
  .cond (.r 23) (
  .seq (.reg false [⟨none, .mov (.v (.c (.d (.bool false))))⟩] [(0, 0)] []) (
  .ret)) (
  .skip))) (
  .seq (.reg false [⟨none, .mov (.v (.c (.d (.nils))))⟩] [(10, 0)] []) (
  .seq (.seq (.reg false [⟨none, .mov (.v (.c (.d (.int .u32 0))))⟩] [(11, 0)] []) (
  .block 2 (
  .seq (.fresh 10 none 17) (
  .loop (some [3, 10, 11]) (
  .seq (.seq (.reg false [⟨none, .mov (.r 11)⟩,
    ⟨none, .bin .lss (.l 0) (.v (.c (.d (.int .u32 256))))⟩] [(24, 0)] []) (
  .cond (.r 24) (
  .skip) (
  .exit 2))) (
  .seq (.block 3 (
  .seq (.reg false [⟨none, .bld [.int .u32 0, .int .u32 0, .int .u32 0, .int .u32 0, .int .u32 0, .int .u32 0, .int .u32 0, .int .u32 0, .int .u32 0, .int .u32 0, .int .u32 0, .int .u32 0, .int .u32 0, .int .u32 0, .int .u32 0, .int .u32 0] [(0, 1, (.v (.c (.d (.int .u32 2))))), (1, 1, (.v (.c (.d (.int .u32 4294967215)))))]⟩,
    ⟨none, .bld [.int .u8 0, .int .u32 0, .int .u32 0, .int .u32 0, .int .u32 0, .int .u32 0, .int .u32 0, .int .u32 0, .int .u32 0, .int .u32 0, .int .u32 0, .int .u32 0, .int .u32 0, .int .u32 0, .int .u32 0, .int .u32 0, .int .u32 0] [(0, 1, (.v (.c (.d (.int .u8 16))))), (1, 16, (.l 0))]⟩,
    ⟨none, .pre⟩,
    ⟨none, .ini 17 (.l 1)⟩] [(12, 0)] []) (
  .seq (.seq (.reg false [⟨none, .mov (.v (.c (.d (.int .i64 2))))⟩] [(13, 0)] []) (
  .block 4 (
  .loop (some [3, 10, 11, 12, 13]) (
  .seq (.seq (.reg false [⟨none, .mov (.r 13)⟩,
    ⟨none, .bin .lss (.l 0) (.v (.c (.d (.int .i64 16))))⟩] [(25, 0)] []) (
  .cond (.r 25) (
  .skip) (
  .exit 4))) (
  .seq (.block 5 (
  .reg false [⟨none, .mov (.r 13)⟩,
    ⟨none, .fa 1 (.r 12)⟩,
    ⟨none, .ixp 16 1 (.l 0) (.l 1)⟩,
    ⟨none, .st 1 (.l 0) (.v (.c (.d (.int .u32 4294967295))))⟩] [] [])) (
  .reg false [⟨none, .mov (.r 13)⟩,
    ⟨none, .bin .add (.l 0) (.v (.c (.d (.int .i64 1))))⟩,
    ⟨none, .mov (.l 0)⟩] [(13, 0)] [])))))) (
  .seq (.reg false [⟨none, .mov (.r 11)⟩,
    ⟨none, .fa 1 (.r 12)⟩,
    ⟨none, .ixp 16 1 (.l 0) (.v (.c (.d (.int .i64 15))))⟩,
    ⟨none, .st 1 (.l 0) (.l 2)⟩] [] []) (
  .reg false [⟨none, .mov (.r 10)⟩,
    ⟨none, .ld true 17 (.r 12)⟩,
    ⟨none, .bsl 1 17 [.int .u8 0, .int .u32 0, .int .u32 0, .int .u32 0, .int .u32 0, .int .u32 0, .int .u32 0, .int .u32 0, .int .u32 0, .int .u32 0, .int .u32 0, .int .u32 0, .int .u32 0, .int .u32 0, .int .u32 0, .int .u32 0, .int .u32 0] [(0, 17, (.l 0))]⟩,
    ⟨none, .app 17 (.l 2) (.l 0)⟩,
    ⟨none, .mov (.l 0)⟩] [(10, 0)] []))))) (
  .reg false [⟨none, .mov (.r 11)⟩,
    ⟨none, .bin .add (.l 0) (.v (.c (.d (.int .u32 1))))⟩,
    ⟨none, .mov (.l 0)⟩] [(11, 0)] []))))))) (
  .seq (.seq (.reg false [⟨none, .mov (.v (.c (.d (.int .i64 0))))⟩] [(14, 0)] []) (
  .block 6 (
  .loop (some [3, 10, 14]) (
  .seq (.seq (.reg false [⟨none, .mov (.r 14)⟩,
    ⟨none, .bin .lss (.l 0) (.v (.c (.d (.int .i64 256))))⟩] [(26, 0)] []) (
  .cond (.r 26) (
  .skip) (
  .exit 6))) (
  .seq (.block 7 (
  .reg false [⟨none, .mov (.r 3)⟩,
    ⟨none, .mov (.r 14)⟩,
    ⟨none, .mov (.r 10)⟩,
    ⟨none, .ixa 5 (.l 2) (.l 1)⟩,
    ⟨none, .fa 1 (.l 0)⟩,
    ⟨none, .st 1 (.l 0) (.l 2)⟩] [] [])) (
  .reg false [⟨none, .mov (.r 14)⟩,
    ⟨none, .bin .add (.l 0) (.v (.c (.d (.int .i64 1))))⟩,
    ⟨none, .mov (.l 0)⟩] [(14, 0)] [])))))) (
  .seq (.reg false [⟨none, .mov (.r 3)⟩,
    ⟨none, .slc 5 (.l 0) none (some (.v (.c (.d (.int .i64 256))))) none⟩,
    ⟨none, .vc 27 [(.l 0)]⟩,
    ⟨none, .mov (.l 0)⟩,
    ⟨none, .ext (.l 0) 0⟩,
    ⟨none, .ext (.l 1) 1⟩,
    ⟨none, .mov (.l 1)⟩,
    ⟨none, .mov (.l 1)⟩] [(15, 0)] []) (
  .seq (.reg false [⟨none, .mks 1 1 [.int .u8 0] (.v (.c (.d (.int .i64 1048577)))) (.v (.c (.d (.int .i64 1048577))))⟩,
    ⟨none, .b2s (.l 0)⟩,
    ⟨none, .vc 28 [(.l 0)]⟩,
    ⟨none, .mov (.l 0)⟩,
    ⟨none, .ext (.l 0) 0⟩,
    ⟨none, .ext (.l 1) 1⟩,
    ⟨none, .ext (.l 2) 2⟩,
    ⟨none, .mov (.l 2)⟩,
    ⟨none, .mov (.l 2)⟩,
    ⟨none, .mov (.l 2)⟩] [(16, 1), (17, 0)] []) (
  .seq (.reg false [⟨none, .mks 1 1 [.int .u8 0] (.v (.c (.d (.int .i64 1048576)))) (.v (.c (.d (.int .i64 1048576))))⟩,
    ⟨none, .b2s (.l 0)⟩,
    ⟨none, .vc 28 [(.l 0)]⟩,
    ⟨none, .mov (.l 0)⟩,
    ⟨none, .ext (.l 0) 0⟩,
    ⟨none, .ext (.l 1) 1⟩,
    ⟨none, .ext (.l 2) 2⟩,
    ⟨none, .mov (.l 2)⟩,
    ⟨none, .mov (.l 2)⟩,
    ⟨none, .mov (.l 2)⟩] [(18, 1), (19, 0)] []) (
  .seq (.reg false [⟨none, .mov (.r 15)⟩,
    ⟨none, .bin .eql (.l 0) (.v (.c (.d (.int .i64 3))))⟩,
    ⟨none, .mov (.l 0)⟩,
    ⟨some (0, true), .mov (.r 17)⟩,
    ⟨some (1, true), .bin .eql (.l 0) (.v (.c (.d (.int .i64 3))))⟩,
    ⟨none, .pick (.l 2) (.l 0) (.v (.c (.d (.bool false))))⟩,
    ⟨none, .mov (.l 0)⟩,
    ⟨some (0, true), .mov (.r 16)⟩,
    ⟨some (1, true), .bin .eql (.l 0) (.v (.c (.d (.int .i64 0))))⟩,
    ⟨none, .pick (.l 2) (.l 0) (.v (.c (.d (.bool false))))⟩,
    ⟨none, .mov (.l 0)⟩,
    ⟨some (0, true), .mov (.r 19)⟩,
    ⟨some (1, true), .bin .eql (.l 0) (.v (.c (.d (.int .i64 6))))⟩,
    ⟨none, .pick (.l 2) (.l 0) (.v (.c (.d (.bool false))))⟩,
    ⟨none, .mov (.l 0)⟩,
    ⟨some (0, true), .mov (.r 18)⟩,
    ⟨some (1, true), .bin .eql (.l 0) (.v (.c (.d (.int .i64 1))))⟩,
    ⟨none, .pick (.l 2) (.l 0) (.v (.c (.d (.bool false))))⟩,
    ⟨none, .mov (.l 0)⟩,
    ⟨some (0, true), .vc 16 []⟩,
    ⟨none, .pick (.l 1) (.l 0) (.v (.c (.d (.bool false))))⟩,
    ⟨none, .mov (.l 0)⟩] [(0, 0)] []) (
  .ret))))))))))))))))))⟩

/-- vidimus/vidimuslaw39.AnchorsCheck -/
def fn10 : Fn := ⟨2, 21, [0, 1, 4, 5, 6, 7, 8, 9, 10, 11, 12, 20, 25, 43, 56, 76, 78, 107, 115, 124, 142], [.r 2],
  .seq (.reg false [⟨none, .mov (.v (.c (.d (.bool false))))⟩] [(2, 0)] []) (
  .seq (.seq (.reg false [⟨none, .mov (.r 0)⟩,
    ⟨none, .len (.l 0)⟩,
    ⟨none, .bin .gtr (.l 0) (.v (.c (.d (.int .i64 8))))⟩,
    ⟨none, .mov (.l 0)⟩,
    ⟨some (0, false), .mov (.r 1)⟩,
    ⟨some (1, false), .lns (.l 0)⟩,
    ⟨some (2, false), .bin .gtr (.l 0) (.v (.c (.d (.int .i64 60))))⟩,
    ⟨none, .pick (.l 3) (.v (.c (.d (.bool true)))) (.l 0)⟩] [(11, 0)] []) (
  .cond (.r 11) (
  .seq (.reg false [⟨none, .vc 16 []⟩,
    ⟨none, .mov (.l 0)⟩] [(2, 0)] []) (
  .ret)) (
  .skip))) (
  .seq (.reg false [⟨none, .mov (.v (.c (.d (.int .i64 0))))⟩] [(3, 0)] []) (
  .seq (.seq (.reg false [⟨none, .mov (.v (.c (.d (.int .i64 0))))⟩] [(4, 0)] []) (
  .block 0 (
  .loop (some [0, 1, 3, 4]) (
  .seq (.seq (.reg false [⟨none, .mov (.r 4)⟩,
    ⟨none, .mov (.r 0)⟩,
    ⟨none, .len (.l 0)⟩,
    ⟨none, .bin .lss (.l 2) (.l 0)⟩] [(12, 0)] []) (
  .cond (.r 12) (
  .skip) (
  .exit 0))) (
  .seq (.block 1 (
  .seq (.seq (.reg false [⟨none, .mov (.r 0)⟩,
    ⟨none, .mov (.r 4)⟩,
    ⟨none, .ixa 5 (.l 1) (.l 0)⟩,
    ⟨none, .fa 1 (.l 0)⟩,
    ⟨none, .ld false 1 (.l 0)⟩,
    ⟨none, .len (.l 0)⟩,
    ⟨none, .bin .gtr (.l 0) (.v (.c (.d (.int .i64 20))))⟩,
    ⟨none, .mov (.l 0)⟩,
    ⟨some (0, false), .mov (.r 0)⟩,
    ⟨some (1, false), .mov (.r 4)⟩,
    ⟨some (2, false), .ixa 5 (.l 1) (.l 0)⟩,
    ⟨some (3, false), .fa 0 (.l 0)⟩,
    ⟨some (4, false), .ld false 1 (.l 0)⟩,
    ⟨some (5, false), .lns (.l 0)⟩,
    ⟨some (6, false), .bin .gtr (.l 0) (.v (.c (.d (.int .i64 100))))⟩,
    ⟨none, .pick (.l 7) (.v (.c (.d (.bool true)))) (.l 0)⟩] [(13, 0)] []) (
  .cond (.r 13) (
  .seq (.reg false [⟨none, .vc 16 []⟩,
    ⟨none, .mov (.l 0)⟩] [(2, 0)] []) (
  .ret)) (
  .skip))) (
  .seq (.reg false [⟨none, .mov (.r 0)⟩,
    ⟨none, .mov (.r 4)⟩,
    ⟨none, .ixa 5 (.l 1) (.l 0)⟩,
    ⟨none, .ld true 5 (.l 0)⟩,
    ⟨none, .vc 22 [(.l 0)]⟩,
    ⟨none, .mov (.l 0)⟩] [(5, 0)] []) (
  .seq (.seq (.reg false [⟨none, .mov (.r 0)⟩,
    ⟨none, .mov (.r 4)⟩,
    ⟨none, .ixa 5 (.l 1) (.l 0)⟩,
    ⟨none, .ld true 5 (.l 0)⟩,
    ⟨none, .vc 33 [(.l 0)]⟩,
    ⟨none, .mov (.r 5)⟩,
    ⟨none, .bin .neq (.l 1) (.l 0)⟩] [(14, 0)] []) (
  .cond (.r 14) (
  .seq (.reg false [⟨none, .mov (.v (.c (.d (.bool false))))⟩] [(2, 0)] []) (
  .ret)) (
  .skip))) (
  .seq (.seq (.reg true [⟨none, .mov (.r 5)⟩,
    ⟨none, .bin .eql (.l 0) (.v (.c (.d (.int .i64 0))))⟩,
    ⟨none, .mov (.l 0)⟩,
    ⟨some (0, true), .mov (.r 4)⟩,
    ⟨some (1, true), .bin .gtr (.l 0) (.v (.c (.d (.int .i64 0))))⟩,
    ⟨none, .pick (.l 2) (.l 0) (.v (.c (.d (.bool false))))⟩,
    ⟨none, .mov (.l 0)⟩,
    ⟨some (0, true), .mov (.r 0)⟩,
    ⟨some (1, true), .mov (.r 4)⟩,
    ⟨some (2, true), .bin .sub (.l 0) (.v (.c (.d (.int .i64 1))))⟩,
    ⟨some (3, true), .ixa 5 (.l 2) (.l 0)⟩,
    ⟨some (4, true), .fa 0 (.l 0)⟩,
    ⟨some (5, true), .ld false 1 (.l 0)⟩,
    ⟨some (6, true), .mov (.r 0)⟩,
    ⟨some (7, true), .mov (.r 4)⟩,
    ⟨some (8, true), .ixa 5 (.l 1) (.l 0)⟩,
    ⟨some (9, true), .fa 0 (.l 0)⟩,
    ⟨some (10, true), .ld false 1 (.l 0)⟩,
    ⟨some (11, true), .bin .geq (.l 5) (.l 0)⟩,
    ⟨none, .pick (.l 12) (.l 0) (.v (.c (.d (.bool false))))⟩] [(15, 0)] []) (
  .cond (.r 15) (
  .reg false [⟨none, .mov (.v (.c (.d (.int .i64 13))))⟩] [(5, 0)] []) (
  .skip))) (
  .seq (.reg false [⟨none, .mov (.r 3)⟩,
    ⟨none, .bin .eql (.l 0) (.v (.c (.d (.int .i64 0))))⟩] [(16, 0)] []) (
  .cond (.r 16) (
  .reg false [⟨none, .mov (.r 5)⟩,
    ⟨none, .mov (.l 0)⟩] [(3, 0)] []) (
  .skip)))))))) (
  .reg false [⟨none, .mov (.r 4)⟩,
    ⟨none, .bin .add (.l 0) (.v (.c (.d (.int .i64 1))))⟩,
    ⟨none, .mov (.l 0)⟩] [(4, 0)] [])))))) (
  .seq (.reg false [⟨none, .mov (.r 0)⟩,
    ⟨none, .mov (.r 1)⟩,
    ⟨none, .vc 42 [(.l 1), (.l 0)]⟩,
    ⟨none, .mov (.l 0)⟩,
    ⟨none, .ext (.l 0) 0⟩,
    ⟨none, .ext (.l 1) 1⟩,
    ⟨none, .pre⟩,
    ⟨none, .ini 5 (.l 2)⟩,
    ⟨none, .mov (.l 2)⟩] [(6, 1), (7, 0)] []) (
  .seq (.reg false [⟨none, .mov (.r 0)⟩,
    ⟨none, .vc 27 [(.l 0)]⟩,
    ⟨none, .mov (.l 0)⟩,
    ⟨none, .ext (.l 0) 0⟩,
    ⟨none, .ext (.l 1) 1⟩,
    ⟨none, .mov (.l 1)⟩,
    ⟨none, .mov (.l 1)⟩] [(8, 1), (9, 0)] []) (
  .seq (.seq (.reg false [⟨none, .mov (.r 0)⟩,
    ⟨none, .vc 34 [(.l 0)]⟩,
    ⟨none, .mov (.r 3)⟩,
    ⟨none, .bin .neq (.l 1) (.l 0)⟩,
    ⟨none, .mov (.l 0)⟩,
    ⟨some (0, false), .mov (.r 9)⟩,
    ⟨some (1, false), .mov (.r 3)⟩,
    ⟨some (2, false), .bin .neq (.l 1) (.l 0)⟩,
    ⟨none, .pick (.l 3) (.v (.c (.d (.bool true)))) (.l 0)⟩,
    ⟨none, .mov (.l 0)⟩,
    ⟨some (0, false), .mov (.r 9)⟩,
    ⟨some (1, false), .bin .neq (.l 0) (.v (.c (.d (.int .i64 0))))⟩,
    ⟨some (2, false), .mov (.l 0)⟩,
    ⟨some (0, true), .mov (.r 8)⟩,
    ⟨some (1, true), .bin .neq (.l 0) (.v (.c (.d (.str []))))⟩,
    ⟨some (5, false), .pick (.l 2) (.l 0) (.v (.c (.d (.bool false))))⟩,
    ⟨none, .pick (.l 6) (.v (.c (.d (.bool true)))) (.l 0)⟩] [(17, 0)] []) (
  .cond (.r 17) (
  .seq (.reg false [⟨none, .mov (.v (.c (.d (.bool false))))⟩] [(2, 0)] []) (
  .ret)) (
  .skip))) (
  .seq (.seq (.reg false [⟨none, .mov (.v (.c (.d (.int .i64 0))))⟩] [(10, 0)] []) (
  .block 2 (
  .loop (some [0, 1, 3, 6, 7, 10]) (
  .seq (.seq (.reg false [⟨none, .mov (.r 10)⟩,
    ⟨none, .mov (.r 0)⟩,
    ⟨none, .len (.l 0)⟩,
    ⟨none, .bin .lss (.l 2) (.l 0)⟩,
    ⟨none, .mov (.l 0)⟩,
    ⟨some (0, true), .mov (.r 3)⟩,
    ⟨some (1, true), .bin .eql (.l 0) (.v (.c (.d (.int .i64 0))))⟩,
    ⟨none, .pick (.l 2) (.l 0) (.v (.c (.d (.bool false))))⟩] [(18, 0)] []) (
  .cond (.r 18) (
  .skip) (
  .exit 2))) (
  .seq (.block 3 (
  .seq (.reg false [⟨none, .mov (.r 0)⟩,
    ⟨none, .mov (.r 10)⟩,
    ⟨none, .ixa 5 (.l 1) (.l 0)⟩,
    ⟨none, .fa 0 (.l 0)⟩,
    ⟨none, .ld false 1 (.l 0)⟩,
    ⟨none, .mov (.r 1)⟩,
    ⟨none, .bin .eql (.l 1) (.l 0)⟩] [(19, 0)] []) (
  .cond (.r 19) (
  .seq (.reg true [⟨none, .mov (.r 7)⟩,
    ⟨none, .bin .eql (.l 0) (.v (.c (.d (.int .i64 0))))⟩,
    ⟨none, .mov (.l 0)⟩,
    ⟨some (0, true), .ld true 5 (.r 6)⟩,
    ⟨some (1, true), .bsl 1 5 [.str [], .nils, .bool false, .bool false, .bool false] [(0, 5, (.l 0))]⟩,
    ⟨some (2, true), .mov (.r 0)⟩,
    ⟨some (3, true), .mov (.r 10)⟩,
    ⟨some (4, true), .mov (.r 10)⟩,
    ⟨some (5, true), .bin .add (.l 0) (.v (.c (.d (.int .i64 1))))⟩,
    ⟨some (6, true), .slc 5 (.l 3) (some (.l 2)) (some (.l 0)) none⟩,
    ⟨some (7, true), .vc 29 [(.l 5), (.l 0)]⟩,
    ⟨some (8, true), .bin .eql (.l 0) (.v (.c (.d (.int .i64 1))))⟩,
    ⟨none, .pick (.l 9) (.l 0) (.v (.c (.d (.bool false))))⟩,
    ⟨none, .mov (.l 0)⟩,
    ⟨some (0, true), .vc 16 []⟩,
    ⟨none, .pick (.l 1) (.l 0) (.v (.c (.d (.bool false))))⟩,
    ⟨none, .mov (.l 0)⟩] [(2, 0)] []) (
  .ret)) (
  .skip)))) (
  .reg false [⟨none, .mov (.r 10)⟩,
    ⟨none, .bin .add (.l 0) (.v (.c (.d (.int .i64 1))))⟩,
    ⟨none, .mov (.l 0)⟩] [(10, 0)] [])))))) (
  .seq (.seq (.reg false [⟨none, .mov (.r 3)⟩,
    ⟨none, .bin .eql (.l 0) (.v (.c (.d (.int .i64 0))))⟩] [(20, 0)] []) (
  .cond (.r 20) (
  .reg false [⟨none, .mov (.v (.c (.d (.int .i64 19))))⟩] [(3, 0)] []) (
  .skip))) (
  .seq (.reg false [⟨none, .mov (.r 7)⟩,
    ⟨none, .mov (.r 3)⟩,
    ⟨none, .bin .eql (.l 1) (.l 0)⟩,
    ⟨none, .mov (.l 0)⟩,
    ⟨some (0, true), .ld true 5 (.r 6)⟩,
    ⟨some (1, true), .bsl 1 5 [.str [], .nils, .bool false, .bool false, .bool false] [(0, 5, (.l 0))]⟩,
    ⟨some (2, true), .bld [.str [], .nils, .bool false, .bool false, .bool false] []⟩,
    ⟨some (3, true), .bsl 1 5 [.str [], .nils, .bool false, .bool false, .bool false] [(0, 5, (.l 0))]⟩,
    ⟨some (4, true), .vc 29 [(.l 2), (.l 0)]⟩,
    ⟨some (5, true), .bin .eql (.l 0) (.v (.c (.d (.int .i64 1))))⟩,
    ⟨none, .pick (.l 6) (.l 0) (.v (.c (.d (.bool false))))⟩,
    ⟨none, .mov (.l 0)⟩,
    ⟨some (0, true), .vc 16 []⟩,
    ⟨none, .pick (.l 1) (.l 0) (.v (.c (.d (.bool false))))⟩,
    ⟨none, .mov (.l 0)⟩] [(2, 0)] []) (
  .ret))))))))))⟩

/-- vidimus/vidimuslaw39.lives -/
def fn16 : Fn := ⟨0, 26, [0, 1, 2, 3, 4, 5, 6, 7, 8, 9, 10, 11, 12, 13, 14, 15, 16, 18, 19, 93, 111, 112, 113, 114, 115, 140], [.r 0],
  .seq (.reg false [⟨none, .mov (.v (.c (.d (.bool false))))⟩] [(0, 0)] []) (
  .seq (.reg false [⟨none, .vc 32 [(.v (.c (.d (.int .u8 0))))]⟩,
    ⟨none, .vc 32 [(.v (.c (.d (.int .u8 1))))]⟩,
    ⟨none, .vc 51 []⟩,
    ⟨none, .pre⟩,
    ⟨none, .pre⟩,
    ⟨none, .pre⟩,
    ⟨none, .ini 17 (.l 5)⟩,
    ⟨none, .ini 17 (.l 5)⟩,
    ⟨none, .ini 17 (.l 5)⟩] [(1, 2), (2, 1), (3, 0)] []) (
  .seq (.reg false [⟨none, .ld true 17 (.r 1)⟩,
    ⟨none, .ld true 17 (.r 2)⟩,
    ⟨none, .bsl 2 17 [.int .u8 0, .int .u32 0, .int .u32 0, .int .u32 0, .int .u32 0, .int .u32 0, .int .u32 0, .int .u32 0, .int .u32 0, .int .u32 0, .int .u32 0, .int .u32 0, .int .u32 0, .int .u32 0, .int .u32 0, .int .u32 0, .int .u32 0] [(0, 17, (.l 1)), (17, 17, (.l 0))]⟩,
    ⟨none, .bld [.str [], .nils, .bool false, .bool false, .bool false] [(0, 1, (.v (.c (.d (.str [114, 111, 111, 116]))))), (1, 1, (.l 0)), (4, 1, (.v (.c (.d (.bool true)))))]⟩,
    ⟨none, .pre⟩,
    ⟨none, .ini 5 (.l 1)⟩] [(4, 0)] []) (
  .seq (.reg false [⟨none, .ld true 5 (.r 4)⟩,
    ⟨none, .bsl 1 5 [.str [], .nils, .bool false, .bool false, .bool false] [(0, 5, (.l 0))]⟩,
    ⟨none, .vc 27 [(.l 0)]⟩,
    ⟨none, .mov (.l 0)⟩,
    ⟨none, .ext (.l 0) 0⟩,
    ⟨none, .ext (.l 1) 1⟩,
    ⟨none, .mov (.l 1)⟩,
    ⟨none, .mov (.l 1)⟩] [(5, 1), (6, 0)] []) (
  .seq (.reg false [⟨none, .ld true 17 (.r 1)⟩,
    ⟨none, .ld true 17 (.r 2)⟩,
    ⟨none, .bsl 2 17 [.int .u8 0, .int .u32 0, .int .u32 0, .int .u32 0, .int .u32 0, .int .u32 0, .int .u32 0, .int .u32 0, .int .u32 0, .int .u32 0, .int .u32 0, .int .u32 0, .int .u32 0, .int .u32 0, .int .u32 0, .int .u32 0, .int .u32 0] [(0, 17, (.l 1)), (17, 17, (.l 0))]⟩,
    ⟨none, .ld true 17 (.r 2)⟩,
    ⟨none, .bsl 1 17 [.int .u8 0, .int .u32 0, .int .u32 0, .int .u32 0, .int .u32 0, .int .u32 0, .int .u32 0, .int .u32 0, .int .u32 0, .int .u32 0, .int .u32 0, .int .u32 0, .int .u32 0, .int .u32 0, .int .u32 0, .int .u32 0, .int .u32 0] [(0, 17, (.l 0))]⟩,
    ⟨none, .vc 18 [(.l 2), (.l 0)]⟩,
    ⟨none, .mov (.l 0)⟩,
    ⟨none, .ext (.l 0) 0⟩,
    ⟨none, .ext (.l 1) 1⟩,
    ⟨none, .mov (.l 1)⟩,
    ⟨none, .mov (.l 1)⟩] [(7, 1), (8, 0)] []) (
  .seq (.reg false [⟨none, .ld true 17 (.r 1)⟩,
    ⟨none, .ld true 17 (.r 2)⟩,
    ⟨none, .bsl 2 17 [.int .u8 0, .int .u32 0, .int .u32 0, .int .u32 0, .int .u32 0, .int .u32 0, .int .u32 0, .int .u32 0, .int .u32 0, .int .u32 0, .int .u32 0, .int .u32 0, .int .u32 0, .int .u32 0, .int .u32 0, .int .u32 0, .int .u32 0] [(0, 17, (.l 1)), (17, 17, (.l 0))]⟩,
    ⟨none, .ld true 17 (.r 3)⟩,
    ⟨none, .bsl 1 17 [.int .u8 0, .int .u32 0, .int .u32 0, .int .u32 0, .int .u32 0, .int .u32 0, .int .u32 0, .int .u32 0, .int .u32 0, .int .u32 0, .int .u32 0, .int .u32 0, .int .u32 0, .int .u32 0, .int .u32 0, .int .u32 0, .int .u32 0] [(0, 17, (.l 0))]⟩,
    ⟨none, .vc 18 [(.l 2), (.l 0)]⟩,
    ⟨none, .mov (.l 0)⟩,
    ⟨none, .ext (.l 0) 0⟩,
    ⟨none, .ext (.l 1) 1⟩,
    ⟨none, .mov (.l 1)⟩,
    ⟨none, .mov (.l 1)⟩] [(9, 1), (10, 0)] []) (
  .seq (.reg false [⟨none, .ld true 17 (.r 1)⟩,
    ⟨none, .bsl 1 17 [.int .u8 0, .int .u32 0, .int .u32 0, .int .u32 0, .int .u32 0, .int .u32 0, .int .u32 0, .int .u32 0, .int .u32 0, .int .u32 0, .int .u32 0, .int .u32 0, .int .u32 0, .int .u32 0, .int .u32 0, .int .u32 0, .int .u32 0] [(0, 17, (.l 0))]⟩,
    ⟨none, .ld true 17 (.r 2)⟩,
    ⟨none, .bsl 1 17 [.int .u8 0, .int .u32 0, .int .u32 0, .int .u32 0, .int .u32 0, .int .u32 0, .int .u32 0, .int .u32 0, .int .u32 0, .int .u32 0, .int .u32 0, .int .u32 0, .int .u32 0, .int .u32 0, .int .u32 0, .int .u32 0, .int .u32 0] [(0, 17, (.l 0))]⟩,
    ⟨none, .vc 18 [(.l 2), (.l 0)]⟩,
    ⟨none, .mov (.l 0)⟩,
    ⟨none, .ext (.l 0) 0⟩,
    ⟨none, .ext (.l 1) 1⟩,
    ⟨none, .mov (.l 1)⟩,
    ⟨none, .mov (.l 1)⟩] [(11, 1), (12, 0)] []) (
  .seq (.reg false [⟨none, .ld true 5 (.r 4)⟩,
    ⟨none, .ld true 17 (.r 3)⟩,
    ⟨none, .bsl 1 17 [.int .u8 0, .int .u32 0, .int .u32 0, .int .u32 0, .int .u32 0, .int .u32 0, .int .u32 0, .int .u32 0, .int .u32 0, .int .u32 0, .int .u32 0, .int .u32 0, .int .u32 0, .int .u32 0, .int .u32 0, .int .u32 0, .int .u32 0] [(0, 17, (.l 0))]⟩,
    ⟨none, .bld [.nils, .bool false, .bool false, .bool false] [(0, 1, (.l 0)), (1, 1, (.v (.c (.d (.bool true)))))]⟩,
    ⟨none, .vc 17 [(.l 3), (.l 0)]⟩,
    ⟨none, .mov (.l 0)⟩,
    ⟨none, .ext (.l 0) 0⟩,
    ⟨none, .ext (.l 1) 1⟩,
    ⟨none, .pre⟩,
    ⟨none, .ini 4 (.l 2)⟩,
    ⟨none, .mov (.l 2)⟩] [(13, 1), (14, 0)] []) (
  .seq (.seq (.reg false [⟨none, .mov (.r 6)⟩,
    ⟨none, .bin .neq (.l 0) (.v (.c (.d (.int .i64 0))))⟩,
    ⟨none, .mov (.l 0)⟩,
    ⟨some (0, false), .mov (.r 8)⟩,
    ⟨some (1, false), .bin .neq (.l 0) (.v (.c (.d (.int .i64 0))))⟩,
    ⟨none, .pick (.l 2) (.v (.c (.d (.bool true)))) (.l 0)⟩,
    ⟨none, .mov (.l 0)⟩,
    ⟨some (0, false), .mov (.r 10)⟩,
    ⟨some (1, false), .bin .neq (.l 0) (.v (.c (.d (.int .i64 0))))⟩,
    ⟨none, .pick (.l 2) (.v (.c (.d (.bool true)))) (.l 0)⟩,
    ⟨none, .mov (.l 0)⟩,
    ⟨some (0, false), .mov (.r 12)⟩,
    ⟨some (1, false), .bin .neq (.l 0) (.v (.c (.d (.int .i64 0))))⟩,
    ⟨none, .pick (.l 2) (.v (.c (.d (.bool true)))) (.l 0)⟩,
    ⟨none, .mov (.l 0)⟩,
    ⟨some (0, false), .mov (.r 14)⟩,
    ⟨some (1, false), .bin .neq (.l 0) (.v (.c (.d (.int .i64 0))))⟩,
    ⟨none, .pick (.l 2) (.v (.c (.d (.bool true)))) (.l 0)⟩,
    ⟨none, .mov (.l 0)⟩,
    ⟨some (0, false), .mov (.r 5)⟩,
    ⟨some (1, false), .bin .neq (.l 0) (.v (.c (.d (.str [97, 110, 99, 104, 111, 114, 32, 114, 111, 111, 116, 32, 49, 46, 50, 46, 51, 44, 49, 46, 50, 46, 52, 32, 110, 111, 97, 110, 121, 10]))))⟩,
    ⟨none, .pick (.l 2) (.v (.c (.d (.bool true)))) (.l 0)⟩,
    ⟨none, .mov (.l 0)⟩,
    ⟨some (0, false), .mov (.r 11)⟩,
    ⟨some (1, false), .len (.l 0)⟩,
    ⟨some (2, false), .bin .neq (.l 0) (.v (.c (.d (.int .i64 0))))⟩,
    ⟨none, .pick (.l 3) (.v (.c (.d (.bool true)))) (.l 0)⟩] [(19, 0)] []) (
  .cond (.r 19) (
  .seq (.reg false [⟨none, .mov (.v (.c (.d (.bool false))))⟩] [(0, 0)] []) (
  .ret)) (
  .skip))) (
  .seq (.seq (.reg true [⟨none, .mov (.r 7)⟩,
    ⟨none, .ld true 17 (.r 2)⟩,
    ⟨none, .bsl 1 17 [.int .u8 0, .int .u32 0, .int .u32 0, .int .u32 0, .int .u32 0, .int .u32 0, .int .u32 0, .int .u32 0, .int .u32 0, .int .u32 0, .int .u32 0, .int .u32 0, .int .u32 0, .int .u32 0, .int .u32 0, .int .u32 0, .int .u32 0] [(0, 17, (.l 0))]⟩,
    ⟨none, .vc 20 [(.l 2), (.l 0)]⟩,
    ⟨none, .mov (.r 9)⟩,
    ⟨none, .ld true 17 (.r 1)⟩,
    ⟨none, .ld true 17 (.r 2)⟩,
    ⟨none, .bsl 2 17 [.int .u8 0, .int .u32 0, .int .u32 0, .int .u32 0, .int .u32 0, .int .u32 0, .int .u32 0, .int .u32 0, .int .u32 0, .int .u32 0, .int .u32 0, .int .u32 0, .int .u32 0, .int .u32 0, .int .u32 0, .int .u32 0, .int .u32 0] [(0, 17, (.l 1)), (17, 17, (.l 0))]⟩,
    ⟨none, .vc 20 [(.l 3), (.l 0)]⟩,
    ⟨none, .bin .mul (.l 5) (.l 0)⟩,
    ⟨none, .ld true 4 (.r 13)⟩,
    ⟨none, .ld true 17 (.r 1)⟩,
    ⟨none, .ld true 17 (.r 2)⟩,
    ⟨none, .bsl 2 17 [.int .u8 0, .int .u32 0, .int .u32 0, .int .u32 0, .int .u32 0, .int .u32 0, .int .u32 0, .int .u32 0, .int .u32 0, .int .u32 0, .int .u32 0, .int .u32 0, .int .u32 0, .int .u32 0, .int .u32 0, .int .u32 0, .int .u32 0] [(0, 17, (.l 1)), (17, 17, (.l 0))]⟩,
    ⟨none, .bld [.nils, .bool false, .bool false, .bool false] [(0, 1, (.l 0)), (1, 1, (.v (.c (.d (.bool true))))), (3, 1, (.v (.c (.d (.bool true)))))]⟩,
    ⟨none, .vc 24 [(.l 4), (.l 0)]⟩,
    ⟨none, .bin .mul (.l 6) (.l 0)⟩,
    ⟨none, .bin .eql (.l 0) (.v (.c (.d (.int .i64 0))))⟩] [(20, 0)] []) (
  .cond (.r 20) (
  .seq (.reg false [⟨none, .mov (.v (.c (.d (.bool false))))⟩] [(0, 0)] []) (
  .ret)) (
  .skip))) (
  .seq (.seq (.reg false [⟨none, .bsl 5 1 [.str []] [(0, 1, (.v (.c (.d (.str [97, 110, 99, 104, 111, 114, 32, 114, 111, 111, 116, 32, 49, 46, 50, 46, 51, 32, 110, 111, 97, 110, 121, 32, 101, 120, 112, 108, 105, 99, 105, 116, 10]))))), (1, 1, (.v (.c (.d (.str [97, 110, 99, 104, 111, 114, 32, 82, 111, 111, 116, 32, 49, 46, 50, 46, 51, 10]))))), (2, 1, (.v (.c (.d (.str [97, 110, 99, 104, 111, 114, 32, 114, 111, 111, 116, 32, 49, 46, 50, 46, 52, 44, 49, 46, 50, 46, 51, 10]))))), (3, 1, (.v (.c (.d (.str [97, 110, 99, 104, 111, 114, 32, 98, 32, 49, 46, 50, 10, 97, 110, 99, 104, 111, 114, 32, 97, 32, 49, 46, 50, 10]))))), (4, 1, (.v (.c (.d (.str [97, 110, 99, 104, 111, 114, 32, 97, 32, 49, 46, 50])))))]⟩,
    ⟨none, .len (.l 0)⟩,
    ⟨none, .mov (.v (.c (.d (.int .i64 0))))⟩] [(21, 2), (22, 1), (23, 0)] []) (
  .block 0 (
  .loop (some [1, 2, 21, 22, 23]) (
  .seq (.reg false [⟨none, .bin .lss (.r 23) (.r 22)⟩] [(24, 0)] []) (
  .seq (.cond (.r 24) (
  .skip) (
  .exit 0)) (
  .seq (.block 1 (
  .seq (.reg false [⟨none, .mov (.r 23)⟩,
    ⟨none, .ixa 1 (.r 21) (.r 23)⟩,
    ⟨none, .ld false 1 (.l 0)⟩,
    ⟨none, .mov (.l 2)⟩,
    ⟨none, .mov (.l 1)⟩] [(15, 1), (16, 0)] []) (
  .seq (.reg false [⟨none, .mov (.r 16)⟩,
    ⟨none, .vc 28 [(.l 0)]⟩,
    ⟨none, .mov (.l 0)⟩,
    ⟨none, .ext (.l 0) 0⟩,
    ⟨none, .ext (.l 1) 1⟩,
    ⟨none, .ext (.l 2) 2⟩,
    ⟨none, .mov (.l 2)⟩,
    ⟨none, .mov (.l 2)⟩,
    ⟨none, .mov (.l 2)⟩] [(17, 1), (18, 0)] []) (
  .seq (.reg false [⟨none, .mov (.r 18)⟩,
    ⟨none, .ld true 17 (.r 2)⟩,
    ⟨none, .ld true 17 (.r 1)⟩,
    ⟨none, .bsl 2 17 [.int .u8 0, .int .u32 0, .int .u32 0, .int .u32 0, .int .u32 0, .int .u32 0, .int .u32 0, .int .u32 0, .int .u32 0, .int .u32 0, .int .u32 0, .int .u32 0, .int .u32 0, .int .u32 0, .int .u32 0, .int .u32 0, .int .u32 0] [(0, 17, (.l 1)), (17, 17, (.l 0))]⟩,
    ⟨none, .vc 19 [(.l 0)]⟩,
    ⟨none, .bld [.int .i64 0, .int .i64 0, .int .i64 0, .int .i64 0, .int .i64 0] [(0, 1, (.v (.c (.d (.int .i64 6))))), (1, 1, (.v (.c (.d (.int .i64 18))))), (2, 1, (.l 0)), (3, 1, (.v (.c (.d (.int .i64 13))))), (4, 1, (.v (.c (.d (.int .i64 6)))))]⟩,
    ⟨none, .mov (.r 15)⟩,
    ⟨none, .ixg false 5 1 (.l 1) (.l 0)⟩,
    ⟨none, .bin .neq (.l 7) (.l 0)⟩,
    ⟨none, .mov (.l 0)⟩,
    ⟨some (0, false), .mov (.r 17)⟩,
    ⟨some (1, false), .bld [.int .i64 0, .int .i64 0, .int .i64 0, .int .i64 0, .int .i64 0] [(0, 1, (.v (.c (.d (.int .i64 1))))), (1, 1, (.v (.c (.d (.int .i64 1))))), (2, 1, (.v (.c (.d (.int .i64 1))))), (3, 1, (.v (.c (.d (.int .i64 2))))), (4, 1, (.v (.c (.d (.int .i64 1)))))]⟩,
    ⟨some (2, false), .mov (.r 15)⟩,
    ⟨some (3, false), .ixg false 5 1 (.l 1) (.l 0)⟩,
    ⟨some (4, false), .bin .neq (.l 3) (.l 0)⟩,
    ⟨none, .pick (.l 5) (.v (.c (.d (.bool true)))) (.l 0)⟩] [(25, 0)] []) (
  .cond (.r 25) (
  .seq (.reg false [⟨none, .mov (.v (.c (.d (.bool false))))⟩] [(0, 0)] []) (
  .ret)) (
  .skip)))))) (
  .reg false [⟨none, .bin .add (.r 23) (.v (.c (.d (.int .i64 1))))⟩,
    ⟨none, .mov (.l 0)⟩] [(23, 0)] []))))))) (
  .seq (.reg false [⟨none, .mov (.v (.c (.d (.bool true))))⟩] [(0, 0)] []) (
  .ret))))))))))))⟩

/-- vidimus/anchors.Inputs -/
def fn17 : Fn := ⟨2, 10, [0, 1, 2, 3, 4, 5, 6, 7, 11, 17], [.cell 4 4 true, .r 5],
  .seq (.reg false [⟨none, .box (.r 0)⟩,
    ⟨none, .box (.r 1)⟩,
    ⟨none, .new [.nils, .bool false, .bool false, .bool false]⟩,
    ⟨none, .mov (.v (.c (.d (.int .i64 0))))⟩] [(2, 3), (3, 2), (4, 1), (5, 0)] []) (
  .seq (.seq (.reg false [⟨none, .ld true 5 (.r 2)⟩,
    ⟨none, .vc 33 [(.l 0)]⟩,
    ⟨none, .mov (.l 0)⟩] [(6, 0)] []) (
  .seq (.reg false [⟨none, .mov (.r 6)⟩,
    ⟨none, .bin .neq (.l 0) (.v (.c (.d (.int .i64 0))))⟩] [(8, 0)] []) (
  .cond (.r 8) (
  .seq (.reg false [⟨none, .bld [.nils, .bool false, .bool false, .bool false] []⟩,
    ⟨none, .mov (.r 6)⟩,
    ⟨none, .st 4 (.r 4) (.l 1)⟩,
    ⟨none, .mov (.l 1)⟩] [(5, 0)] []) (
  .ret)) (
  .skip)))) (
  .seq (.seq (.reg false [⟨none, .ld true 4 (.r 3)⟩,
    ⟨none, .vc 23 [(.l 0)]⟩,
    ⟨none, .mov (.l 0)⟩] [(7, 0)] []) (
  .seq (.reg false [⟨none, .mov (.r 7)⟩,
    ⟨none, .bin .neq (.l 0) (.v (.c (.d (.int .i64 0))))⟩] [(9, 0)] []) (
  .cond (.r 9) (
  .seq (.reg false [⟨none, .bld [.nils, .bool false, .bool false, .bool false] []⟩,
    ⟨none, .mov (.r 7)⟩,
    ⟨none, .st 4 (.r 4) (.l 1)⟩,
    ⟨none, .mov (.l 1)⟩] [(5, 0)] []) (
  .ret)) (
  .skip)))) (
  .seq (.reg true [⟨none, .fa 1 (.r 2)⟩,
    ⟨none, .ld false 1 (.l 0)⟩,
    ⟨none, .fa 0 (.r 3)⟩,
    ⟨none, .ld false 1 (.l 0)⟩,
    ⟨none, .vc 52 [(.l 2), (.l 0)]⟩,
    ⟨none, .fa 2 (.r 2)⟩,
    ⟨none, .ld false 1 (.l 0)⟩,
    ⟨none, .mov (.l 0)⟩,
    ⟨some (0, false), .fa 1 (.r 3)⟩,
    ⟨some (1, false), .ld false 1 (.l 0)⟩,
    ⟨none, .pick (.l 2) (.v (.c (.d (.bool true)))) (.l 0)⟩,
    ⟨none, .fa 3 (.r 2)⟩,
    ⟨none, .ld false 1 (.l 0)⟩,
    ⟨none, .mov (.l 0)⟩,
    ⟨some (0, false), .fa 2 (.r 3)⟩,
    ⟨some (1, false), .ld false 1 (.l 0)⟩,
    ⟨none, .pick (.l 2) (.v (.c (.d (.bool true)))) (.l 0)⟩,
    ⟨none, .fa 4 (.r 2)⟩,
    ⟨none, .ld false 1 (.l 0)⟩,
    ⟨none, .mov (.l 0)⟩,
    ⟨some (0, false), .fa 3 (.r 3)⟩,
    ⟨some (1, false), .ld false 1 (.l 0)⟩,
    ⟨none, .pick (.l 2) (.v (.c (.d (.bool true)))) (.l 0)⟩,
    ⟨none, .bld [.nils, .bool false, .bool false, .bool false] [(0, 1, (.l 18)), (1, 1, (.l 12)), (2, 1, (.l 6)), (3, 1, (.l 0))]⟩,
    ⟨none, .st 4 (.r 4) (.l 0)⟩,
    ⟨none, .mov (.v (.c (.d (.int .i64 0))))⟩] [(5, 0)] []) (
  .ret))))⟩

/-- vidimus/anchors.Meet -/
def fn18 : Fn := ⟨2, 8, [0, 1, 4, 5, 6, 7, 11, 16], [.r 2, .r 3],
  .seq (.reg false [⟨none, .mov (.v (.c (.d (.nils))))⟩,
    ⟨none, .mov (.v (.c (.d (.int .i64 0))))⟩] [(2, 1), (3, 0)] []) (
  .seq (.seq (.reg false [⟨none, .mov (.r 0)⟩,
    ⟨none, .vc 19 [(.l 0)]⟩,
    ⟨none, .mov (.l 0)⟩] [(4, 0)] []) (
  .seq (.reg false [⟨none, .mov (.r 4)⟩,
    ⟨none, .bin .neq (.l 0) (.v (.c (.d (.int .i64 0))))⟩] [(6, 0)] []) (
  .cond (.r 6) (
  .seq (.reg false [⟨none, .mov (.r 4)⟩,
    ⟨none, .mov (.v (.c (.d (.nils))))⟩,
    ⟨none, .mov (.l 1)⟩] [(2, 1), (3, 0)] []) (
  .ret)) (
  .skip)))) (
  .seq (.seq (.reg false [⟨none, .mov (.r 1)⟩,
    ⟨none, .vc 19 [(.l 0)]⟩,
    ⟨none, .mov (.l 0)⟩] [(5, 0)] []) (
  .seq (.reg false [⟨none, .mov (.r 5)⟩,
    ⟨none, .bin .neq (.l 0) (.v (.c (.d (.int .i64 0))))⟩] [(7, 0)] []) (
  .cond (.r 7) (
  .seq (.reg false [⟨none, .mov (.r 5)⟩,
    ⟨none, .mov (.v (.c (.d (.nils))))⟩,
    ⟨none, .mov (.l 1)⟩] [(2, 1), (3, 0)] []) (
  .ret)) (
  .skip)))) (
  .seq (.reg false [⟨none, .mov (.r 0)⟩,
    ⟨none, .mov (.r 1)⟩,
    ⟨none, .hc (.v (.c (.d (.fn 52 [] [])))) [(.l 1), (.l 0)]⟩,
    ⟨none, .mov (.l 0)⟩,
    ⟨none, .mov (.v (.c (.d (.int .i64 0))))⟩] [(2, 1), (3, 0)] []) (
  .ret))))⟩

/-- vidimus/oidsets.Check -/
def fn19 : Fn := ⟨1, 15, [0, 2, 3, 4, 5, 6, 9, 10, 11, 12, 13, 20, 23, 31, 34], [.r 1],
  .seq (.reg false [⟨none, .mov (.v (.c (.d (.int .i64 0))))⟩] [(1, 0)] []) (
  .seq (.seq (.reg false [⟨none, .mov (.r 0)⟩,
    ⟨none, .len (.l 0)⟩,
    ⟨none, .bin .gtr (.l 0) (.v (.c (.d (.int .i64 256))))⟩] [(6, 0)] []) (
  .cond (.r 6) (
  .seq (.reg false [⟨none, .mov (.v (.c (.d (.int .i64 3))))⟩] [(1, 0)] []) (
  .ret)) (
  .skip))) (
  .seq (.seq (.reg false [⟨none, .mov (.r 0)⟩,
    ⟨none, .len (.l 0)⟩,
    ⟨none, .mov (.v (.c (.d (.int .i64 0))))⟩] [(7, 2), (8, 1), (9, 0)] []) (
  .block 0 (
  .loop (some [0, 7, 8, 9]) (
  .seq (.reg false [⟨none, .bin .lss (.r 9) (.r 8)⟩] [(10, 0)] []) (
  .seq (.cond (.r 10) (
  .skip) (
  .exit 0)) (
  .seq (.block 1 (
  .seq (.reg false [⟨none, .mov (.r 9)⟩,
    ⟨none, .ixa 17 (.r 7) (.r 9)⟩,
    ⟨none, .ld true 17 (.l 0)⟩,
    ⟨none, .pre⟩,
    ⟨none, .mov (.l 3)⟩,
    ⟨none, .ini 17 (.l 2)⟩] [(2, 1), (3, 0)] []) (
  .seq (.seq (.reg false [⟨none, .ld true 17 (.r 3)⟩,
    ⟨none, .vc 53 [(.l 0)]⟩,
    ⟨none, .mov (.l 0)⟩] [(4, 0)] []) (
  .seq (.reg false [⟨none, .mov (.r 4)⟩,
    ⟨none, .bin .neq (.l 0) (.v (.c (.d (.int .i64 0))))⟩] [(11, 0)] []) (
  .cond (.r 11) (
  .seq (.reg false [⟨none, .mov (.r 4)⟩,
    ⟨none, .mov (.l 0)⟩] [(1, 0)] []) (
  .ret)) (
  .skip)))) (
  .seq (.seq (.reg false [⟨none, .mov (.r 2)⟩,
    ⟨none, .bin .eql (.l 0) (.v (.c (.d (.int .i64 0))))⟩] [(12, 0)] []) (
  .cond (.r 12) (
  .exit 1) (
  .skip))) (
  .seq (.reg true [⟨none, .mov (.r 0)⟩,
    ⟨none, .mov (.r 2)⟩,
    ⟨none, .bin .sub (.l 0) (.v (.c (.d (.int .i64 1))))⟩,
    ⟨none, .ixa 17 (.l 2) (.l 0)⟩,
    ⟨none, .ld true 17 (.l 0)⟩,
    ⟨none, .ld true 17 (.r 3)⟩,
    ⟨none, .vc 54 [(.l 1), (.l 0)]⟩,
    ⟨none, .mov (.l 0)⟩] [(5, 0)] []) (
  .block 2 (
  .seq (.reg false [⟨none, .mov (.r 5)⟩,
    ⟨none, .bin .eql (.l 0) (.v (.c (.d (.int .i64 0))))⟩,
    ⟨none, .mov (.l 0)⟩] [(13, 0)] []) (
  .cond (.r 13) (
  .seq (.reg false [⟨none, .mov (.v (.c (.d (.int .i64 14))))⟩] [(1, 0)] []) (
  .ret)) (
  .seq (.reg false [⟨none, .mov (.r 5)⟩,
    ⟨none, .bin .gtr (.l 0) (.v (.c (.d (.int .i64 0))))⟩,
    ⟨none, .mov (.l 0)⟩] [(14, 0)] []) (
  .cond (.r 14) (
  .seq (.reg false [⟨none, .mov (.v (.c (.d (.int .i64 13))))⟩] [(1, 0)] []) (
  .ret)) (
  .skip))))))))))) (
  .reg false [⟨none, .bin .add (.r 9) (.v (.c (.d (.int .i64 1))))⟩,
    ⟨none, .mov (.l 0)⟩] [(9, 0)] []))))))) (
  .seq (.reg false [⟨none, .mov (.v (.c (.d (.int .i64 0))))⟩] [(1, 0)] []) (
  .ret))))⟩

/-- vidimus/vidimuslaw34.Same -/
def fn20 : Fn := ⟨2, 7, [0, 1, 4, 5, 10, 14, 25], [.r 2],
  .seq (.reg false [⟨none, .mov (.v (.c (.d (.int .i64 0))))⟩] [(2, 0)] []) (
  .seq (.seq (.reg false [⟨none, .mov (.r 0)⟩,
    ⟨none, .len (.l 0)⟩,
    ⟨none, .mov (.r 1)⟩,
    ⟨none, .len (.l 0)⟩,
    ⟨none, .bin .neq (.l 2) (.l 0)⟩] [(4, 0)] []) (
  .cond (.r 4) (
  .seq (.reg false [⟨none, .mov (.v (.c (.d (.int .i64 0))))⟩] [(2, 0)] []) (
  .ret)) (
  .skip))) (
  .seq (.seq (.reg false [⟨none, .mov (.v (.c (.d (.int .i64 0))))⟩] [(3, 0)] []) (
  .block 0 (
  .loop (some [0, 1, 3]) (
  .seq (.seq (.reg false [⟨none, .mov (.r 3)⟩,
    ⟨none, .mov (.r 0)⟩,
    ⟨none, .len (.l 0)⟩,
    ⟨none, .bin .lss (.l 2) (.l 0)⟩] [(5, 0)] []) (
  .cond (.r 5) (
  .skip) (
  .exit 0))) (
  .seq (.block 1 (
  .seq (.reg true [⟨none, .mov (.r 0)⟩,
    ⟨none, .mov (.r 3)⟩,
    ⟨none, .ixa 17 (.l 1) (.l 0)⟩,
    ⟨none, .ld true 17 (.l 0)⟩,
    ⟨none, .mov (.r 1)⟩,
    ⟨none, .mov (.r 3)⟩,
    ⟨none, .ixa 17 (.l 1) (.l 0)⟩,
    ⟨none, .ld true 17 (.l 0)⟩,
    ⟨none, .eqa true 17 (.l 4) (.l 0)⟩] [(6, 0)] []) (
  .cond (.r 6) (
  .seq (.reg false [⟨none, .mov (.v (.c (.d (.int .i64 0))))⟩] [(2, 0)] []) (
  .ret)) (
  .skip)))) (
  .reg false [⟨none, .mov (.r 3)⟩,
    ⟨none, .bin .add (.l 0) (.v (.c (.d (.int .i64 1))))⟩,
    ⟨none, .mov (.l 0)⟩] [(3, 0)] [])))))) (
  .seq (.reg false [⟨none, .mov (.v (.c (.d (.int .i64 1))))⟩] [(2, 0)] []) (
  .ret))))⟩

/-- vidimus/vidimusref39.Meet -/
def fn21 : Fn := ⟨2, 11, [0, 1, 4, 5, 6, 7, 16, 21, 25, 30, 38], [.r 2],
  .seq (.reg false [⟨none, .mov (.v (.c (.d (.nils))))⟩] [(2, 0)] []) (
  .seq (.reg false [⟨none, .vc 51 []⟩,
    ⟨none, .pre⟩,
    ⟨none, .ini 17 (.l 1)⟩] [(3, 0)] []) (
  .seq (.seq (.reg false [⟨none, .mov (.r 0)⟩,
    ⟨none, .ld true 17 (.r 3)⟩,
    ⟨none, .vc 55 [(.l 1), (.l 0)]⟩,
    ⟨none, .mov (.l 0)⟩,
    ⟨some (0, true), .mov (.r 1)⟩,
    ⟨some (1, true), .ld true 17 (.r 3)⟩,
    ⟨some (2, true), .vc 55 [(.l 1), (.l 0)]⟩,
    ⟨none, .pick (.l 3) (.l 0) (.v (.c (.d (.bool false))))⟩] [(6, 0)] []) (
  .cond (.r 6) (
  .seq (.reg false [⟨none, .ld true 17 (.r 3)⟩,
    ⟨none, .bsl 1 17 [.int .u8 0, .int .u32 0, .int .u32 0, .int .u32 0, .int .u32 0, .int .u32 0, .int .u32 0, .int .u32 0, .int .u32 0, .int .u32 0, .int .u32 0, .int .u32 0, .int .u32 0, .int .u32 0, .int .u32 0, .int .u32 0, .int .u32 0] [(0, 17, (.l 0))]⟩,
    ⟨none, .mov (.l 0)⟩] [(2, 0)] []) (
  .ret)) (
  .skip))) (
  .seq (.seq (.reg false [⟨none, .mov (.r 0)⟩,
    ⟨none, .ld true 17 (.r 3)⟩,
    ⟨none, .vc 55 [(.l 1), (.l 0)]⟩] [(7, 0)] []) (
  .cond (.r 7) (
  .seq (.reg false [⟨none, .mov (.r 1)⟩,
    ⟨none, .mov (.l 0)⟩] [(2, 0)] []) (
  .ret)) (
  .skip))) (
  .seq (.seq (.reg false [⟨none, .mov (.r 1)⟩,
    ⟨none, .ld true 17 (.r 3)⟩,
    ⟨none, .vc 55 [(.l 1), (.l 0)]⟩] [(8, 0)] []) (
  .cond (.r 8) (
  .seq (.reg false [⟨none, .mov (.r 0)⟩,
    ⟨none, .mov (.l 0)⟩] [(2, 0)] []) (
  .ret)) (
  .skip))) (
  .seq (.reg false [⟨none, .mov (.v (.c (.d (.nils))))⟩] [(4, 0)] []) (
  .seq (.seq (.reg false [⟨none, .mov (.v (.c (.d (.int .i64 0))))⟩] [(5, 0)] []) (
  .block 0 (
  .seq (.fresh 4 none 17) (
  .loop (some [0, 1, 4, 5]) (
  .seq (.seq (.reg false [⟨none, .mov (.r 5)⟩,
    ⟨none, .mov (.r 0)⟩,
    ⟨none, .len (.l 0)⟩,
    ⟨none, .bin .lss (.l 2) (.l 0)⟩] [(9, 0)] []) (
  .cond (.r 9) (
  .skip) (
  .exit 0))) (
  .seq (.block 1 (
  .seq (.reg false [⟨none, .mov (.r 1)⟩,
    ⟨none, .mov (.r 0)⟩,
    ⟨none, .mov (.r 5)⟩,
    ⟨none, .ixa 17 (.l 1) (.l 0)⟩,
    ⟨none, .ld true 17 (.l 0)⟩,
    ⟨none, .vc 55 [(.l 4), (.l 0)]⟩] [(10, 0)] []) (
  .cond (.r 10) (
  .reg false [⟨none, .mov (.r 4)⟩,
    ⟨none, .mov (.r 0)⟩,
    ⟨none, .mov (.r 5)⟩,
    ⟨none, .ixa 17 (.l 1) (.l 0)⟩,
    ⟨none, .ld true 17 (.l 0)⟩,
    ⟨none, .bsl 1 17 [.int .u8 0, .int .u32 0, .int .u32 0, .int .u32 0, .int .u32 0, .int .u32 0, .int .u32 0, .int .u32 0, .int .u32 0, .int .u32 0, .int .u32 0, .int .u32 0, .int .u32 0, .int .u32 0, .int .u32 0, .int .u32 0, .int .u32 0] [(0, 17, (.l 0))]⟩,
    ⟨none, .app 17 (.l 5) (.l 0)⟩,
    ⟨none, .mov (.l 0)⟩] [(4, 0)] []) (
  .skip)))) (
  .reg false [⟨none, .mov (.r 5)⟩,
    ⟨none, .bin .add (.l 0) (.v (.c (.d (.int .i64 1))))⟩,
    ⟨none, .mov (.l 0)⟩] [(5, 0)] []))))))) (
  .seq (.reg false [⟨none, .mov (.r 4)⟩,
    ⟨none, .mov (.l 0)⟩] [(2, 0)] []) (
  .ret))))))))⟩

/-- vidimus/vidimuslaw39.check -/
def fn22 : Fn := ⟨1, 7, [0, 1, 2, 3, 7, 12, 17], [.r 2],
  .seq (.reg false [⟨none, .box (.r 0)⟩,
    ⟨none, .mov (.v (.c (.d (.int .i64 0))))⟩] [(1, 1), (2, 0)] []) (
  .seq (.seq (.reg false [⟨none, .fa 0 (.r 1)⟩,
    ⟨none, .ld false 1 (.l 0)⟩,
    ⟨none, .vc 56 [(.l 0)]⟩,
    ⟨none, .un .not (.l 0)⟩] [(4, 0)] []) (
  .cond (.r 4) (
  .seq (.reg false [⟨none, .mov (.v (.c (.d (.int .i64 18))))⟩] [(2, 0)] []) (
  .ret)) (
  .skip))) (
  .seq (.seq (.reg false [⟨none, .fa 1 (.r 1)⟩,
    ⟨none, .ld false 1 (.l 0)⟩,
    ⟨none, .vc 19 [(.l 0)]⟩,
    ⟨none, .mov (.l 0)⟩] [(3, 0)] []) (
  .seq (.reg false [⟨none, .mov (.r 3)⟩,
    ⟨none, .bin .neq (.l 0) (.v (.c (.d (.int .i64 0))))⟩] [(5, 0)] []) (
  .cond (.r 5) (
  .seq (.reg false [⟨none, .mov (.r 3)⟩,
    ⟨none, .mov (.l 0)⟩] [(2, 0)] []) (
  .ret)) (
  .skip)))) (
  .seq (.seq (.reg false [⟨none, .fa 1 (.r 1)⟩,
    ⟨none, .ld false 1 (.l 0)⟩,
    ⟨none, .len (.l 0)⟩,
    ⟨none, .bin .eql (.l 0) (.v (.c (.d (.int .i64 0))))⟩] [(6, 0)] []) (
  .cond (.r 6) (
  .seq (.reg false [⟨none, .mov (.v (.c (.d (.int .i64 17))))⟩] [(2, 0)] []) (
  .ret)) (
  .skip))) (
  .seq (.reg false [⟨none, .mov (.v (.c (.d (.int .i64 0))))⟩] [(2, 0)] []) (
  .ret)))))⟩

/-- vidimus/records.Inputs -/
def fn23 : Fn := ⟨1, 3, [0, 1, 2], [.r 2],
  .seq (.reg false [⟨none, .box (.r 0)⟩,
    ⟨none, .mov (.v (.c (.d (.int .i64 0))))⟩] [(1, 1), (2, 0)] []) (
  .seq (.reg false [⟨none, .fa 0 (.r 1)⟩,
    ⟨none, .ld false 1 (.l 0)⟩,
    ⟨none, .vc 19 [(.l 0)]⟩,
    ⟨none, .mov (.l 0)⟩] [(2, 0)] []) (
  .ret))⟩

/-- vidimus/vidimuslaw39.given -/
def fn24 : Fn := ⟨2, 6, [0, 1, 2, 3, 4, 23], [.r 4],
  .seq (.reg false [⟨none, .box (.r 0)⟩,
    ⟨none, .box (.r 1)⟩,
    ⟨none, .mov (.v (.c (.d (.int .i64 0))))⟩] [(2, 2), (3, 1), (4, 0)] []) (
  .seq (.seq (.reg false [⟨none, .fa 1 (.r 2)⟩,
    ⟨none, .ld false 1 (.l 0)⟩,
    ⟨none, .fa 1 (.r 3)⟩,
    ⟨none, .ld false 1 (.l 0)⟩,
    ⟨none, .beq true (.l 2) (.l 0)⟩,
    ⟨none, .mov (.l 0)⟩,
    ⟨some (0, false), .fa 2 (.r 2)⟩,
    ⟨some (1, false), .ld false 1 (.l 0)⟩,
    ⟨some (2, false), .fa 2 (.r 3)⟩,
    ⟨some (3, false), .ld false 1 (.l 0)⟩,
    ⟨some (4, false), .beq true (.l 2) (.l 0)⟩,
    ⟨none, .pick (.l 5) (.v (.c (.d (.bool true)))) (.l 0)⟩,
    ⟨none, .mov (.l 0)⟩,
    ⟨some (0, false), .fa 3 (.r 2)⟩,
    ⟨some (1, false), .ld false 1 (.l 0)⟩,
    ⟨some (2, false), .fa 3 (.r 3)⟩,
    ⟨some (3, false), .ld false 1 (.l 0)⟩,
    ⟨some (4, false), .beq true (.l 2) (.l 0)⟩,
    ⟨none, .pick (.l 5) (.v (.c (.d (.bool true)))) (.l 0)⟩] [(5, 0)] []) (
  .cond (.r 5) (
  .seq (.reg false [⟨none, .mov (.v (.c (.d (.int .i64 0))))⟩] [(4, 0)] []) (
  .ret)) (
  .skip))) (
  .seq (.reg false [⟨none, .fa 0 (.r 2)⟩,
    ⟨none, .ld false 1 (.l 0)⟩,
    ⟨none, .fa 0 (.r 3)⟩,
    ⟨none, .ld false 1 (.l 0)⟩,
    ⟨none, .vc 20 [(.l 2), (.l 0)]⟩,
    ⟨none, .mov (.l 0)⟩] [(4, 0)] []) (
  .ret)))⟩

/-- vidimus/vidimuslaw39.list -/
def fn25 : Fn := ⟨1, 5, [0, 2, 3, 4, 12], [.r 1],
  .seq (.reg false [⟨none, .mov (.v (.c (.d (.nils))))⟩] [(1, 0)] []) (
  .seq (.reg false [⟨none, .mov (.v (.c (.d (.nils))))⟩] [(2, 0)] []) (
  .seq (.seq (.reg false [⟨none, .mov (.v (.c (.d (.int .i64 0))))⟩] [(3, 0)] []) (
  .block 0 (
  .seq (.fresh 2 none 5) (
  .loop (some [0, 2, 3]) (
  .seq (.seq (.reg false [⟨none, .mov (.r 3)⟩,
    ⟨none, .mov (.r 0)⟩,
    ⟨none, .len (.l 0)⟩,
    ⟨none, .bin .lss (.l 2) (.l 0)⟩,
    ⟨none, .mov (.l 0)⟩,
    ⟨some (0, true), .mov (.r 3)⟩,
    ⟨some (1, true), .bin .lss (.l 0) (.v (.c (.d (.int .i64 8))))⟩,
    ⟨none, .pick (.l 2) (.l 0) (.v (.c (.d (.bool false))))⟩] [(4, 0)] []) (
  .cond (.r 4) (
  .skip) (
  .exit 0))) (
  .seq (.block 1 (
  .reg true [⟨none, .mov (.r 2)⟩,
    ⟨none, .mov (.r 0)⟩,
    ⟨none, .mov (.r 3)⟩,
    ⟨none, .ixa 2 (.l 1) (.l 0)⟩,
    ⟨none, .ld true 2 (.l 0)⟩,
    ⟨none, .mov (.r 3)⟩,
    ⟨none, .mov (.r 3)⟩,
    ⟨none, .bin .add (.l 0) (.v (.c (.d (.int .i64 1))))⟩,
    ⟨none, .sls (.v (.c (.d (.str [97, 98, 99, 100, 101, 102, 103, 104])))) (some (.l 2)) (some (.l 0))⟩,
    ⟨none, .vc 57 [(.l 4), (.l 0)]⟩,
    ⟨none, .bsl 1 5 [.str [], .nils, .bool false, .bool false, .bool false] [(0, 5, (.l 0))]⟩,
    ⟨none, .app 5 (.l 10) (.l 0)⟩,
    ⟨none, .mov (.l 0)⟩] [(2, 0)] [])) (
  .reg false [⟨none, .mov (.r 3)⟩,
    ⟨none, .bin .add (.l 0) (.v (.c (.d (.int .i64 1))))⟩,
    ⟨none, .mov (.l 0)⟩] [(3, 0)] []))))))) (
  .seq (.reg false [⟨none, .mov (.r 2)⟩,
    ⟨none, .mov (.l 0)⟩] [(1, 0)] []) (
  .ret))))⟩

/-- vidimus/vidimusref39.Line -/
def fn26 : Fn := ⟨1, 10, [0, 1, 2, 3, 4, 13, 17, 29, 33, 37], [.r 2],
  .seq (.reg false [⟨none, .box (.r 0)⟩,
    ⟨none, .mov (.v (.c (.d (.str []))))⟩] [(1, 1), (2, 0)] []) (
  .seq (.reg false [⟨none, .fa 0 (.r 1)⟩,
    ⟨none, .ld false 1 (.l 0)⟩,
    ⟨none, .bin .add (.v (.c (.d (.str [97, 110, 99, 104, 111, 114, 32])))) (.l 0)⟩,
    ⟨none, .bin .add (.l 0) (.v (.c (.d (.str [32]))))⟩,
    ⟨none, .mov (.l 0)⟩] [(3, 0)] []) (
  .seq (.seq (.reg false [⟨none, .mov (.v (.c (.d (.int .i64 0))))⟩] [(4, 0)] []) (
  .block 0 (
  .loop (some [1, 3, 4]) (
  .seq (.seq (.reg false [⟨none, .mov (.r 4)⟩,
    ⟨none, .fa 1 (.r 1)⟩,
    ⟨none, .ld false 1 (.l 0)⟩,
    ⟨none, .len (.l 0)⟩,
    ⟨none, .bin .lss (.l 3) (.l 0)⟩] [(5, 0)] []) (
  .cond (.r 5) (
  .skip) (
  .exit 0))) (
  .seq (.block 1 (
  .seq (.seq (.reg false [⟨none, .mov (.r 4)⟩,
    ⟨none, .bin .gtr (.l 0) (.v (.c (.d (.int .i64 0))))⟩] [(6, 0)] []) (
  .cond (.r 6) (
  .reg false [⟨none, .mov (.r 3)⟩,
    ⟨none, .bin .add (.l 0) (.v (.c (.d (.str [44]))))⟩,
    ⟨none, .mov (.l 0)⟩] [(3, 0)] []) (
  .skip))) (
  .reg false [⟨none, .mov (.r 3)⟩,
    ⟨none, .fa 1 (.r 1)⟩,
    ⟨none, .ld false 1 (.l 0)⟩,
    ⟨none, .mov (.r 4)⟩,
    ⟨none, .ixa 17 (.l 1) (.l 0)⟩,
    ⟨none, .ld true 17 (.l 0)⟩,
    ⟨none, .vc 58 [(.l 0)]⟩,
    ⟨none, .bin .add (.l 6) (.l 0)⟩,
    ⟨none, .mov (.l 0)⟩] [(3, 0)] []))) (
  .reg false [⟨none, .mov (.r 4)⟩,
    ⟨none, .bin .add (.l 0) (.v (.c (.d (.int .i64 1))))⟩,
    ⟨none, .mov (.l 0)⟩] [(4, 0)] [])))))) (
  .seq (.seq (.reg false [⟨none, .fa 2 (.r 1)⟩,
    ⟨none, .ld false 1 (.l 0)⟩] [(7, 0)] []) (
  .cond (.r 7) (
  .reg false [⟨none, .mov (.r 3)⟩,
    ⟨none, .bin .add (.l 0) (.v (.c (.d (.str [32, 101, 120, 112, 108, 105, 99, 105, 116]))))⟩,
    ⟨none, .mov (.l 0)⟩] [(3, 0)] []) (
  .skip))) (
  .seq (.seq (.reg false [⟨none, .fa 3 (.r 1)⟩,
    ⟨none, .ld false 1 (.l 0)⟩] [(8, 0)] []) (
  .cond (.r 8) (
  .reg false [⟨none, .mov (.r 3)⟩,
    ⟨none, .bin .add (.l 0) (.v (.c (.d (.str [32, 110, 111, 109, 97, 112, 112, 105, 110, 103]))))⟩,
    ⟨none, .mov (.l 0)⟩] [(3, 0)] []) (
  .skip))) (
  .seq (.seq (.reg false [⟨none, .fa 4 (.r 1)⟩,
    ⟨none, .ld false 1 (.l 0)⟩] [(9, 0)] []) (
  .cond (.r 9) (
  .reg false [⟨none, .mov (.r 3)⟩,
    ⟨none, .bin .add (.l 0) (.v (.c (.d (.str [32, 110, 111, 97, 110, 121]))))⟩,
    ⟨none, .mov (.l 0)⟩] [(3, 0)] []) (
  .skip))) (
  .seq (.reg false [⟨none, .mov (.r 3)⟩,
    ⟨none, .bin .add (.l 0) (.v (.c (.d (.str [10]))))⟩,
    ⟨none, .mov (.l 0)⟩] [(2, 0)] []) (
  .ret)))))))⟩

/-- vidimus/anchors.Text -/
def fn27 : Fn := ⟨1, 25, [0, 2, 3, 4, 5, 7, 8, 9, 10, 11, 15, 17, 18, 19, 20, 29, 30, 31, 32, 37, 43, 44, 45, 51, 58], [.r 1, .r 2],
  .seq (.reg false [⟨none, .mov (.v (.c (.d (.str []))))⟩,
    ⟨none, .mov (.v (.c (.d (.int .i64 0))))⟩] [(1, 1), (2, 0)] []) (
  .seq (.seq (.reg false [⟨none, .mov (.r 0)⟩,
    ⟨none, .vc 34 [(.l 0)]⟩,
    ⟨none, .mov (.l 0)⟩] [(3, 0)] []) (
  .seq (.reg false [⟨none, .mov (.r 3)⟩,
    ⟨none, .bin .neq (.l 0) (.v (.c (.d (.int .i64 0))))⟩] [(10, 0)] []) (
  .cond (.r 10) (
  .seq (.reg false [⟨none, .mov (.r 3)⟩,
    ⟨none, .mov (.v (.c (.d (.str []))))⟩,
    ⟨none, .mov (.l 1)⟩] [(1, 1), (2, 0)] []) (
  .ret)) (
  .skip)))) (
  .seq (.reg false [⟨none, .newb 108⟩] [(4, 0)] []) (
  .seq (.seq (.reg false [⟨none, .mov (.r 0)⟩,
    ⟨none, .len (.l 0)⟩,
    ⟨none, .mov (.v (.c (.d (.int .i64 0))))⟩] [(11, 2), (12, 1), (13, 0)] []) (
  .block 0 (
  .loop (some [4, 11, 12, 13]) (
  .seq (.reg false [⟨none, .bin .lss (.r 13) (.r 12)⟩] [(14, 0)] []) (
  .seq (.cond (.r 14) (
  .skip) (
  .exit 0)) (
  .seq (.block 1 (
  .seq (.reg false [⟨none, .ixa 5 (.r 11) (.r 13)⟩,
    ⟨none, .ld true 5 (.l 0)⟩,
    ⟨none, .pre⟩,
    ⟨none, .ini 5 (.l 1)⟩] [(5, 0)] []) (
  .seq (.reg false [⟨none, .fa 0 (.r 5)⟩,
    ⟨none, .ld false 1 (.l 0)⟩,
    ⟨none, .bin .add (.v (.c (.d (.str [97, 110, 99, 104, 111, 114, 32])))) (.l 0)⟩,
    ⟨none, .bin .add (.l 0) (.v (.c (.d (.str [32]))))⟩,
    ⟨none, .hc (.v (.c (.d (.fn 59 [] [])))) [(.r 4), (.l 0)]⟩] [] []) (
  .seq (.seq (.reg false [⟨none, .fa 1 (.r 5)⟩,
    ⟨none, .ld false 1 (.l 0)⟩,
    ⟨none, .len (.l 0)⟩,
    ⟨none, .mov (.v (.c (.d (.int .i64 0))))⟩] [(15, 2), (16, 1), (17, 0)] []) (
  .block 2 (
  .loop (some [4, 5, 11, 12, 13, 15, 16, 17]) (
  .seq (.reg false [⟨none, .bin .lss (.r 17) (.r 16)⟩] [(18, 0)] []) (
  .seq (.cond (.r 18) (
  .skip) (
  .exit 2)) (
  .seq (.block 3 (
  .seq (.reg false [⟨none, .mov (.r 17)⟩,
    ⟨none, .ixa 17 (.r 15) (.r 17)⟩,
    ⟨none, .ld true 17 (.l 0)⟩,
    ⟨none, .pre⟩,
    ⟨none, .mov (.l 3)⟩,
    ⟨none, .ini 17 (.l 2)⟩] [(6, 1), (7, 0)] []) (
  .seq (.seq (.reg false [⟨none, .mov (.r 6)⟩,
    ⟨none, .bin .gtr (.l 0) (.v (.c (.d (.int .i64 0))))⟩] [(19, 0)] []) (
  .cond (.r 19) (
  .reg false [⟨none, .hc (.v (.c (.d (.fn 60 [] [])))) [(.r 4), (.v (.c (.d (.int .u8 44))))]⟩] [] []) (
  .skip))) (
  .reg false [⟨none, .ld true 17 (.r 7)⟩,
    ⟨none, .vc 61 [(.l 0)]⟩,
    ⟨none, .hc (.v (.c (.d (.fn 59 [] [])))) [(.r 4), (.l 0)]⟩] [] [])))) (
  .reg false [⟨none, .bin .add (.r 17) (.v (.c (.d (.int .i64 1))))⟩,
    ⟨none, .mov (.l 0)⟩] [(17, 0)] []))))))) (
  .seq (.seq (.reg false [⟨none, .ld true 3 (.g 0)⟩,
    ⟨none, .mov (.v (.c (.d (.int .i64 0))))⟩] [(20, 1), (21, 0)] []) (
  .block 4 (
  .loop (some [4, 5, 11, 12, 13, 20, 21]) (
  .seq (.reg false [⟨none, .bin .lss (.r 21) (.v (.c (.d (.int .i64 3))))⟩] [(22, 0)] []) (
  .seq (.cond (.r 22) (
  .skip) (
  .exit 4)) (
  .seq (.block 5 (
  .seq (.reg false [⟨none, .mov (.r 21)⟩,
    ⟨none, .ixg false 3 1 (.r 20) (.r 21)⟩,
    ⟨none, .mov (.l 1)⟩,
    ⟨none, .mov (.l 1)⟩] [(8, 1), (9, 0)] []) (
  .seq (.reg false [⟨none, .mov (.r 8)⟩,
    ⟨none, .hc (.v (.c (.d (.fn 62 [] [])))) [(.r 5), (.l 0)]⟩,
    ⟨none, .nlc (.l 0)⟩,
    ⟨none, .ld false 1 (.l 0)⟩] [(23, 0)] []) (
  .cond (.r 23) (
  .reg false [⟨none, .mov (.r 9)⟩,
    ⟨none, .bin .add (.v (.c (.d (.str [32])))) (.l 0)⟩,
    ⟨none, .hc (.v (.c (.d (.fn 59 [] [])))) [(.r 4), (.l 0)]⟩] [] []) (
  .skip))))) (
  .reg false [⟨none, .bin .add (.r 21) (.v (.c (.d (.int .i64 1))))⟩,
    ⟨none, .mov (.l 0)⟩] [(21, 0)] []))))))) (
  .seq (.reg false [⟨none, .hc (.v (.c (.d (.fn 60 [] [])))) [(.r 4), (.v (.c (.d (.int .u8 10))))]⟩] [] []) (
  .seq (.reg false [⟨none, .hc (.v (.c (.d (.fn 63 [] [])))) [(.r 4)]⟩,
    ⟨none, .bin .gtr (.l 0) (.v (.c (.d (.int .i64 1048576))))⟩] [(24, 0)] []) (
  .cond (.r 24) (
  .seq (.reg false [⟨none, .mov (.v (.c (.d (.str []))))⟩,
    ⟨none, .mov (.v (.c (.d (.int .i64 3))))⟩] [(1, 1), (2, 0)] []) (
  .ret)) (
  .skip))))))))) (
  .reg false [⟨none, .bin .add (.r 13) (.v (.c (.d (.int .i64 1))))⟩,
    ⟨none, .mov (.l 0)⟩] [(13, 0)] []))))))) (
  .seq (.reg false [⟨none, .hc (.v (.c (.d (.fn 64 [] [])))) [(.r 4)]⟩,
    ⟨none, .mov (.l 0)⟩,
    ⟨none, .mov (.v (.c (.d (.int .i64 0))))⟩] [(1, 1), (2, 0)] []) (
  .ret)))))⟩

/-- vidimus/anchors.Parse -/
def fn28 : Fn := ⟨1, 16, [0, 2, 3, 4, 5, 6, 7, 8, 9, 10, 13, 16, 20, 38, 43, 58], [.r 1, .r 2, .r 3],
  .seq (.reg false [⟨none, .mov (.v (.c (.d (.nils))))⟩,
    ⟨none, .mov (.v (.c (.d (.int .i64 0))))⟩,
    ⟨none, .mov (.v (.c (.d (.int .i64 0))))⟩] [(1, 2), (2, 1), (3, 0)] []) (
  .seq (.seq (.reg false [⟨none, .mov (.r 0)⟩,
    ⟨none, .lns (.l 0)⟩,
    ⟨none, .bin .gtr (.l 0) (.v (.c (.d (.int .i64 1048576))))⟩] [(10, 0)] []) (
  .cond (.r 10) (
  .seq (.reg false [⟨none, .mov (.v (.c (.d (.nils))))⟩,
    ⟨none, .mov (.v (.c (.d (.int .i64 0))))⟩,
    ⟨none, .mov (.v (.c (.d (.int .i64 3))))⟩] [(1, 2), (2, 1), (3, 0)] []) (
  .ret)) (
  .skip))) (
  .seq (.block 0 (
  .seq (.fresh 1 none 5) (
  .loop (some [0, 1, 2]) (
  .seq (.seq (.reg false [⟨none, .mov (.r 0)⟩,
    ⟨none, .lns (.l 0)⟩,
    ⟨none, .bin .gtr (.l 0) (.v (.c (.d (.int .i64 0))))⟩] [(11, 0)] []) (
  .cond (.r 11) (
  .skip) (
  .exit 0))) (
  .block 1 (
  .seq (.reg false [⟨none, .mov (.r 2)⟩,
    ⟨none, .bin .add (.l 0) (.v (.c (.d (.int .i64 1))))⟩,
    ⟨none, .mov (.l 0)⟩] [(2, 0)] []) (
  .seq (.seq (.reg false [⟨none, .mov (.r 2)⟩,
    ⟨none, .bin .gtr (.l 0) (.v (.c (.d (.int .i64 256))))⟩] [(12, 0)] []) (
  .cond (.r 12) (
  .seq (.reg false [⟨none, .mov (.r 2)⟩,
    ⟨none, .mov (.v (.c (.d (.nils))))⟩,
    ⟨none, .mov (.l 1)⟩,
    ⟨none, .mov (.v (.c (.d (.int .i64 3))))⟩] [(1, 2), (2, 1), (3, 0)] []) (
  .ret)) (
  .skip))) (
  .seq (.reg false [⟨none, .mov (.r 0)⟩,
    ⟨none, .pc 65 [(.l 0), (.v (.c (.d (.str [10]))))]⟩,
    ⟨none, .mov (.l 0)⟩,
    ⟨none, .ext (.l 0) 0⟩,
    ⟨none, .ext (.l 1) 1⟩,
    ⟨none, .ext (.l 2) 2⟩,
    ⟨none, .mov (.l 2)⟩,
    ⟨none, .mov (.l 2)⟩,
    ⟨none, .mov (.l 2)⟩] [(4, 2), (5, 1), (6, 0)] []) (
  .seq (.reg false [⟨none, .mov (.r 4)⟩,
    ⟨none, .vc 66 [(.l 0)]⟩,
    ⟨none, .mov (.l 0)⟩,
    ⟨none, .ext (.l 0) 0⟩,
    ⟨none, .ext (.l 1) 1⟩,
    ⟨none, .pre⟩,
    ⟨none, .ini 5 (.l 2)⟩,
    ⟨none, .mov (.l 2)⟩] [(7, 1), (8, 0)] []) (
  .seq (.seq (.reg false [⟨none, .mov (.r 6)⟩,
    ⟨none, .un .not (.l 0)⟩,
    ⟨none, .mov (.l 0)⟩,
    ⟨some (0, false), .mov (.r 8)⟩,
    ⟨some (1, false), .un .not (.l 0)⟩,
    ⟨none, .pick (.l 2) (.v (.c (.d (.bool true)))) (.l 0)⟩] [(13, 0)] []) (
  .cond (.r 13) (
  .seq (.reg false [⟨none, .mov (.r 2)⟩,
    ⟨none, .mov (.v (.c (.d (.nils))))⟩,
    ⟨none, .mov (.l 1)⟩,
    ⟨none, .mov (.v (.c (.d (.int .i64 6))))⟩] [(1, 2), (2, 1), (3, 0)] []) (
  .ret)) (
  .skip))) (
  .seq (.seq (.reg false [⟨none, .ld true 5 (.r 7)⟩,
    ⟨none, .vc 33 [(.l 0)]⟩,
    ⟨none, .mov (.l 0)⟩] [(9, 0)] []) (
  .seq (.reg false [⟨none, .mov (.r 9)⟩,
    ⟨none, .bin .neq (.l 0) (.v (.c (.d (.int .i64 0))))⟩] [(14, 0)] []) (
  .cond (.r 14) (
  .seq (.reg false [⟨none, .mov (.r 2)⟩,
    ⟨none, .mov (.r 9)⟩,
    ⟨none, .mov (.v (.c (.d (.nils))))⟩,
    ⟨none, .mov (.l 2)⟩,
    ⟨none, .mov (.l 2)⟩] [(1, 2), (2, 1), (3, 0)] []) (
  .ret)) (
  .skip)))) (
  .seq (.seq (.reg true [⟨none, .mov (.r 2)⟩,
    ⟨none, .bin .gtr (.l 0) (.v (.c (.d (.int .i64 1))))⟩,
    ⟨none, .mov (.l 0)⟩,
    ⟨some (0, true), .mov (.r 1)⟩,
    ⟨some (1, true), .mov (.r 2)⟩,
    ⟨some (2, true), .bin .sub (.l 0) (.v (.c (.d (.int .i64 2))))⟩,
    ⟨some (3, true), .ixa 5 (.l 2) (.l 0)⟩,
    ⟨some (4, true), .fa 0 (.l 0)⟩,
    ⟨some (5, true), .ld false 1 (.l 0)⟩,
    ⟨some (6, true), .fa 0 (.r 7)⟩,
    ⟨some (7, true), .ld false 1 (.l 0)⟩,
    ⟨some (8, true), .bin .geq (.l 2) (.l 0)⟩,
    ⟨none, .pick (.l 9) (.l 0) (.v (.c (.d (.bool false))))⟩] [(15, 0)] []) (
  .cond (.r 15) (
  .seq (.reg false [⟨none, .mov (.r 2)⟩,
    ⟨none, .mov (.v (.c (.d (.nils))))⟩,
    ⟨none, .mov (.l 1)⟩,
    ⟨none, .mov (.v (.c (.d (.int .i64 13))))⟩] [(1, 2), (2, 1), (3, 0)] []) (
  .ret)) (
  .skip))) (
  .seq (.reg false [⟨none, .fa 1 (.r 7)⟩,
    ⟨none, .ld false 1 (.l 0)⟩,
    ⟨none, .vc 67 [(.l 0)]⟩,
    ⟨none, .fa 1 (.r 7)⟩,
    ⟨none, .st 1 (.l 0) (.l 1)⟩] [] []) (
  .seq (.reg false [⟨none, .mov (.r 1)⟩,
    ⟨none, .ld true 5 (.r 7)⟩,
    ⟨none, .bsl 1 5 [.str [], .nils, .bool false, .bool false, .bool false] [(0, 5, (.l 0))]⟩,
    ⟨none, .app 5 (.l 2) (.l 0)⟩,
    ⟨none, .mov (.l 0)⟩] [(1, 0)] []) (
  .reg false [⟨none, .mov (.r 5)⟩,
    ⟨none, .mov (.l 0)⟩] [(0, 0)] []))))))))))))))) (
  .seq (.reg false [⟨none, .mov (.r 1)⟩,
    ⟨none, .hc (.v (.c (.d (.fn 68 [] [])))) [(.l 0)]⟩,
    ⟨none, .mov (.l 0)⟩,
    ⟨none, .mov (.v (.c (.d (.int .i64 0))))⟩,
    ⟨none, .mov (.v (.c (.d (.int .i64 0))))⟩] [(1, 2), (2, 1), (3, 0)] []) (
  .ret))))⟩

/-- vidimus/vidimuslaw39.alike -/
def fn29 : Fn := ⟨2, 7, [0, 1, 4, 5, 10, 14, 80], [.r 2],
  .seq (.reg false [⟨none, .mov (.v (.c (.d (.int .i64 0))))⟩] [(2, 0)] []) (
  .seq (.seq (.reg false [⟨none, .mov (.r 0)⟩,
    ⟨none, .len (.l 0)⟩,
    ⟨none, .mov (.r 1)⟩,
    ⟨none, .len (.l 0)⟩,
    ⟨none, .bin .neq (.l 2) (.l 0)⟩] [(4, 0)] []) (
  .cond (.r 4) (
  .seq (.reg false [⟨none, .mov (.v (.c (.d (.int .i64 0))))⟩] [(2, 0)] []) (
  .ret)) (
  .skip))) (
  .seq (.seq (.reg false [⟨none, .mov (.v (.c (.d (.int .i64 0))))⟩] [(3, 0)] []) (
  .block 0 (
  .loop (some [0, 1, 3]) (
  .seq (.seq (.reg false [⟨none, .mov (.r 3)⟩,
    ⟨none, .mov (.r 0)⟩,
    ⟨none, .len (.l 0)⟩,
    ⟨none, .bin .lss (.l 2) (.l 0)⟩] [(5, 0)] []) (
  .cond (.r 5) (
  .skip) (
  .exit 0))) (
  .seq (.block 1 (
  .seq (.reg true [⟨none, .mov (.r 0)⟩,
    ⟨none, .mov (.r 3)⟩,
    ⟨none, .ixa 5 (.l 1) (.l 0)⟩,
    ⟨none, .fa 0 (.l 0)⟩,
    ⟨none, .ld false 1 (.l 0)⟩,
    ⟨none, .mov (.r 1)⟩,
    ⟨none, .mov (.r 3)⟩,
    ⟨none, .ixa 5 (.l 1) (.l 0)⟩,
    ⟨none, .fa 0 (.l 0)⟩,
    ⟨none, .ld false 1 (.l 0)⟩,
    ⟨none, .bin .neq (.l 5) (.l 0)⟩,
    ⟨none, .mov (.l 0)⟩,
    ⟨some (0, false), .mov (.r 0)⟩,
    ⟨some (1, false), .mov (.r 3)⟩,
    ⟨some (2, false), .ixa 5 (.l 1) (.l 0)⟩,
    ⟨some (3, false), .fa 2 (.l 0)⟩,
    ⟨some (4, false), .ld false 1 (.l 0)⟩,
    ⟨some (5, false), .mov (.r 1)⟩,
    ⟨some (6, false), .mov (.r 3)⟩,
    ⟨some (7, false), .ixa 5 (.l 1) (.l 0)⟩,
    ⟨some (8, false), .fa 2 (.l 0)⟩,
    ⟨some (9, false), .ld false 1 (.l 0)⟩,
    ⟨some (10, false), .beq true (.l 5) (.l 0)⟩,
    ⟨none, .pick (.l 11) (.v (.c (.d (.bool true)))) (.l 0)⟩,
    ⟨none, .mov (.l 0)⟩,
    ⟨some (0, false), .mov (.r 0)⟩,
    ⟨some (1, false), .mov (.r 3)⟩,
    ⟨some (2, false), .ixa 5 (.l 1) (.l 0)⟩,
    ⟨some (3, false), .fa 3 (.l 0)⟩,
    ⟨some (4, false), .ld false 1 (.l 0)⟩,
    ⟨some (5, false), .mov (.r 1)⟩,
    ⟨some (6, false), .mov (.r 3)⟩,
    ⟨some (7, false), .ixa 5 (.l 1) (.l 0)⟩,
    ⟨some (8, false), .fa 3 (.l 0)⟩,
    ⟨some (9, false), .ld false 1 (.l 0)⟩,
    ⟨some (10, false), .beq true (.l 5) (.l 0)⟩,
    ⟨none, .pick (.l 11) (.v (.c (.d (.bool true)))) (.l 0)⟩,
    ⟨none, .mov (.l 0)⟩,
    ⟨some (0, false), .mov (.r 0)⟩,
    ⟨some (1, false), .mov (.r 3)⟩,
    ⟨some (2, false), .ixa 5 (.l 1) (.l 0)⟩,
    ⟨some (3, false), .fa 4 (.l 0)⟩,
    ⟨some (4, false), .ld false 1 (.l 0)⟩,
    ⟨some (5, false), .mov (.r 1)⟩,
    ⟨some (6, false), .mov (.r 3)⟩,
    ⟨some (7, false), .ixa 5 (.l 1) (.l 0)⟩,
    ⟨some (8, false), .fa 4 (.l 0)⟩,
    ⟨some (9, false), .ld false 1 (.l 0)⟩,
    ⟨some (10, false), .beq true (.l 5) (.l 0)⟩,
    ⟨none, .pick (.l 11) (.v (.c (.d (.bool true)))) (.l 0)⟩,
    ⟨none, .mov (.l 0)⟩,
    ⟨some (0, false), .mov (.r 0)⟩,
    ⟨some (1, false), .mov (.r 3)⟩,
    ⟨some (2, false), .ixa 5 (.l 1) (.l 0)⟩,
    ⟨some (3, false), .fa 1 (.l 0)⟩,
    ⟨some (4, false), .ld false 1 (.l 0)⟩,
    ⟨some (5, false), .mov (.r 1)⟩,
    ⟨some (6, false), .mov (.r 3)⟩,
    ⟨some (7, false), .ixa 5 (.l 1) (.l 0)⟩,
    ⟨some (8, false), .fa 1 (.l 0)⟩,
    ⟨some (9, false), .ld false 1 (.l 0)⟩,
    ⟨some (10, false), .vc 20 [(.l 5), (.l 0)]⟩,
    ⟨some (11, false), .bin .eql (.l 0) (.v (.c (.d (.int .i64 0))))⟩,
    ⟨none, .pick (.l 12) (.v (.c (.d (.bool true)))) (.l 0)⟩] [(6, 0)] []) (
  .cond (.r 6) (
  .seq (.reg false [⟨none, .mov (.v (.c (.d (.int .i64 0))))⟩] [(2, 0)] []) (
  .ret)) (
  .skip)))) (
  .reg false [⟨none, .mov (.r 3)⟩,
    ⟨none, .bin .add (.l 0) (.v (.c (.d (.int .i64 1))))⟩,
    ⟨none, .mov (.l 0)⟩] [(3, 0)] [])))))) (
  .seq (.reg false [⟨none, .mov (.v (.c (.d (.int .i64 1))))⟩] [(2, 0)] []) (
  .ret))))⟩

/-- vidimus/vidimusref39.Cut -/
def fn30 : Fn := ⟨2, 7, [0, 1, 4, 5, 6, 11, 18], [.r 2],
  .seq (.reg false [⟨none, .mov (.v (.c (.d (.nils))))⟩] [(2, 0)] []) (
  .seq (.reg false [⟨none, .bsl 1 1 [.str []] [(0, 1, (.v (.c (.d (.str [])))))]⟩,
    ⟨none, .mov (.l 0)⟩] [(3, 0)] []) (
  .seq (.seq (.reg false [⟨none, .mov (.v (.c (.d (.int .i64 0))))⟩] [(4, 0)] []) (
  .block 0 (
  .seq (.fresh 3 none 1) (
  .loop (some [0, 1, 3, 4]) (
  .seq (.seq (.reg false [⟨none, .mov (.r 4)⟩,
    ⟨none, .mov (.r 0)⟩,
    ⟨none, .lns (.l 0)⟩,
    ⟨none, .bin .lss (.l 2) (.l 0)⟩] [(5, 0)] []) (
  .cond (.r 5) (
  .skip) (
  .exit 0))) (
  .seq (.block 1 (
  .seq (.seq (.reg false [⟨none, .mov (.r 0)⟩,
    ⟨none, .mov (.r 4)⟩,
    ⟨none, .ixs (.l 1) (.l 0)⟩,
    ⟨none, .mov (.r 1)⟩,
    ⟨none, .bin .eql (.l 1) (.l 0)⟩] [(6, 0)] []) (
  .cond (.r 6) (
  .seq (.reg false [⟨none, .mov (.r 3)⟩,
    ⟨none, .bsl 1 1 [.str []] [(0, 1, (.v (.c (.d (.str [])))))]⟩,
    ⟨none, .app 1 (.l 1) (.l 0)⟩,
    ⟨none, .mov (.l 0)⟩] [(3, 0)] []) (
  .exit 1)) (
  .skip))) (
  .reg true [⟨none, .mov (.r 3)⟩,
    ⟨none, .mov (.r 3)⟩,
    ⟨none, .len (.l 0)⟩,
    ⟨none, .bin .sub (.l 0) (.v (.c (.d (.int .i64 1))))⟩,
    ⟨none, .mov (.r 3)⟩,
    ⟨none, .mov (.r 3)⟩,
    ⟨none, .len (.l 0)⟩,
    ⟨none, .bin .sub (.l 0) (.v (.c (.d (.int .i64 1))))⟩,
    ⟨none, .ixa 1 (.l 3) (.l 0)⟩,
    ⟨none, .ld false 1 (.l 0)⟩,
    ⟨none, .mov (.r 0)⟩,
    ⟨none, .mov (.r 4)⟩,
    ⟨none, .ixs (.l 1) (.l 0)⟩,
    ⟨none, .bsl 1 1 [.int .u8 0] [(0, 1, (.l 0))]⟩,
    ⟨none, .b2s (.l 0)⟩,
    ⟨none, .bin .add (.l 5) (.l 0)⟩,
    ⟨none, .ixa 1 (.l 15) (.l 12)⟩,
    ⟨none, .st 1 (.l 0) (.l 1)⟩] [] []))) (
  .reg false [⟨none, .mov (.r 4)⟩,
    ⟨none, .bin .add (.l 0) (.v (.c (.d (.int .i64 1))))⟩,
    ⟨none, .mov (.l 0)⟩] [(4, 0)] []))))))) (
  .seq (.reg false [⟨none, .mov (.r 3)⟩,
    ⟨none, .mov (.l 0)⟩] [(2, 0)] []) (
  .ret))))⟩

/-- vidimus/vidimusref39.Read -/
def fn31 : Fn := ⟨1, 16, [0, 2, 3, 4, 5, 6, 7, 8, 9, 10, 21, 34, 46, 64, 78, 92], [.cell 1 5 true, .r 2],
  .seq (.reg false [⟨none, .new [.str [], .nils, .bool false, .bool false, .bool false]⟩,
    ⟨none, .mov (.v (.c (.d (.bool false))))⟩] [(1, 1), (2, 0)] []) (
  .seq (.reg false [⟨none, .mov (.r 0)⟩,
    ⟨none, .vc 30 [(.l 0), (.v (.c (.d (.int .u8 32))))]⟩,
    ⟨none, .mov (.l 0)⟩] [(3, 0)] []) (
  .seq (.seq (.reg false [⟨none, .mov (.r 3)⟩,
    ⟨none, .len (.l 0)⟩,
    ⟨none, .bin .lss (.l 0) (.v (.c (.d (.int .i64 3))))⟩,
    ⟨none, .mov (.l 0)⟩,
    ⟨some (0, false), .mov (.r 3)⟩,
    ⟨some (1, false), .ixa 1 (.l 0) (.v (.c (.d (.int .i64 0))))⟩,
    ⟨some (2, false), .ld false 1 (.l 0)⟩,
    ⟨some (3, false), .bin .neq (.l 0) (.v (.c (.d (.str [97, 110, 99, 104, 111, 114]))))⟩,
    ⟨none, .pick (.l 4) (.v (.c (.d (.bool true)))) (.l 0)⟩] [(10, 0)] []) (
  .cond (.r 10) (
  .seq (.reg false [⟨none, .bld [.str [], .nils, .bool false, .bool false, .bool false] []⟩,
    ⟨none, .st 5 (.r 1) (.l 0)⟩,
    ⟨none, .mov (.v (.c (.d (.bool false))))⟩] [(2, 0)] []) (
  .ret)) (
  .skip))) (
  .seq (.reg false [⟨none, .mov (.r 3)⟩,
    ⟨none, .ixa 1 (.l 0) (.v (.c (.d (.int .i64 1))))⟩,
    ⟨none, .ld false 1 (.l 0)⟩,
    ⟨none, .bld [.str [], .nils, .bool false, .bool false, .bool false] [(0, 1, (.l 0))]⟩,
    ⟨none, .pre⟩,
    ⟨none, .ini 5 (.l 1)⟩] [(4, 0)] []) (
  .seq (.reg false [⟨none, .mov (.r 3)⟩,
    ⟨none, .ixa 1 (.l 0) (.v (.c (.d (.int .i64 2))))⟩,
    ⟨none, .ld false 1 (.l 0)⟩,
    ⟨none, .vc 30 [(.l 0), (.v (.c (.d (.int .u8 44))))]⟩,
    ⟨none, .mov (.l 0)⟩] [(5, 0)] []) (
  .seq (.seq (.reg false [⟨none, .mov (.v (.c (.d (.int .i64 0))))⟩] [(6, 0)] []) (
  .block 0 (
  .seq (.fresh 4 (some 1) 17) (
  .loop (some [1, 3, 4, 5, 6]) (
  .seq (.seq (.reg false [⟨none, .mov (.r 6)⟩,
    ⟨none, .mov (.r 5)⟩,
    ⟨none, .len (.l 0)⟩,
    ⟨none, .bin .lss (.l 2) (.l 0)⟩] [(11, 0)] []) (
  .cond (.r 11) (
  .skip) (
  .exit 0))) (
  .seq (.block 1 (
  .seq (.reg false [⟨none, .mov (.r 5)⟩,
    ⟨none, .mov (.r 6)⟩,
    ⟨none, .ixa 1 (.l 1) (.l 0)⟩,
    ⟨none, .ld false 1 (.l 0)⟩,
    ⟨none, .vc 69 [(.l 0)]⟩,
    ⟨none, .mov (.l 0)⟩,
    ⟨none, .ext (.l 0) 0⟩,
    ⟨none, .ext (.l 1) 1⟩,
    ⟨none, .pre⟩,
    ⟨none, .ini 17 (.l 2)⟩,
    ⟨none, .mov (.l 2)⟩] [(7, 1), (8, 0)] []) (
  .seq (.seq (.reg false [⟨none, .mov (.r 8)⟩,
    ⟨none, .un .not (.l 0)⟩] [(12, 0)] []) (
  .cond (.r 12) (
  .seq (.reg false [⟨none, .bld [.str [], .nils, .bool false, .bool false, .bool false] []⟩,
    ⟨none, .st 5 (.r 1) (.l 0)⟩,
    ⟨none, .mov (.v (.c (.d (.bool false))))⟩] [(2, 0)] []) (
  .ret)) (
  .skip))) (
  .reg false [⟨none, .fa 1 (.r 4)⟩,
    ⟨none, .ld false 1 (.l 0)⟩,
    ⟨none, .ld true 17 (.r 7)⟩,
    ⟨none, .bsl 1 17 [.int .u8 0, .int .u32 0, .int .u32 0, .int .u32 0, .int .u32 0, .int .u32 0, .int .u32 0, .int .u32 0, .int .u32 0, .int .u32 0, .int .u32 0, .int .u32 0, .int .u32 0, .int .u32 0, .int .u32 0, .int .u32 0, .int .u32 0] [(0, 17, (.l 0))]⟩,
    ⟨none, .app 17 (.l 2) (.l 0)⟩,
    ⟨none, .fa 1 (.r 4)⟩,
    ⟨none, .st 1 (.l 0) (.l 1)⟩] [] [])))) (
  .reg false [⟨none, .mov (.r 6)⟩,
    ⟨none, .bin .add (.l 0) (.v (.c (.d (.int .i64 1))))⟩,
    ⟨none, .mov (.l 0)⟩] [(6, 0)] []))))))) (
  .seq (.reg false [⟨none, .mov (.v (.c (.d (.int .i64 3))))⟩] [(9, 0)] []) (
  .seq (.seq (.reg false [⟨none, .mov (.r 9)⟩,
    ⟨none, .mov (.r 3)⟩,
    ⟨none, .len (.l 0)⟩,
    ⟨none, .bin .lss (.l 2) (.l 0)⟩,
    ⟨none, .mov (.l 0)⟩,
    ⟨some (0, true), .mov (.r 3)⟩,
    ⟨some (1, true), .mov (.r 9)⟩,
    ⟨some (2, true), .ixa 1 (.l 1) (.l 0)⟩,
    ⟨some (3, true), .ld false 1 (.l 0)⟩,
    ⟨some (4, true), .bin .eql (.l 0) (.v (.c (.d (.str [101, 120, 112, 108, 105, 99, 105, 116]))))⟩,
    ⟨none, .pick (.l 5) (.l 0) (.v (.c (.d (.bool false))))⟩] [(13, 0)] []) (
  .cond (.r 13) (
  .seq (.reg false [⟨none, .fa 2 (.r 4)⟩,
    ⟨none, .st 1 (.l 0) (.v (.c (.d (.bool true))))⟩] [] []) (
  .reg false [⟨none, .mov (.r 9)⟩,
    ⟨none, .bin .add (.l 0) (.v (.c (.d (.int .i64 1))))⟩,
    ⟨none, .mov (.l 0)⟩] [(9, 0)] [])) (
  .skip))) (
  .seq (.seq (.reg false [⟨none, .mov (.r 9)⟩,
    ⟨none, .mov (.r 3)⟩,
    ⟨none, .len (.l 0)⟩,
    ⟨none, .bin .lss (.l 2) (.l 0)⟩,
    ⟨none, .mov (.l 0)⟩,
    ⟨some (0, true), .mov (.r 3)⟩,
    ⟨some (1, true), .mov (.r 9)⟩,
    ⟨some (2, true), .ixa 1 (.l 1) (.l 0)⟩,
    ⟨some (3, true), .ld false 1 (.l 0)⟩,
    ⟨some (4, true), .bin .eql (.l 0) (.v (.c (.d (.str [110, 111, 109, 97, 112, 112, 105, 110, 103]))))⟩,
    ⟨none, .pick (.l 5) (.l 0) (.v (.c (.d (.bool false))))⟩] [(14, 0)] []) (
  .cond (.r 14) (
  .seq (.reg false [⟨none, .fa 3 (.r 4)⟩,
    ⟨none, .st 1 (.l 0) (.v (.c (.d (.bool true))))⟩] [] []) (
  .reg false [⟨none, .mov (.r 9)⟩,
    ⟨none, .bin .add (.l 0) (.v (.c (.d (.int .i64 1))))⟩,
    ⟨none, .mov (.l 0)⟩] [(9, 0)] [])) (
  .skip))) (
  .seq (.seq (.reg false [⟨none, .mov (.r 9)⟩,
    ⟨none, .mov (.r 3)⟩,
    ⟨none, .len (.l 0)⟩,
    ⟨none, .bin .lss (.l 2) (.l 0)⟩,
    ⟨none, .mov (.l 0)⟩,
    ⟨some (0, true), .mov (.r 3)⟩,
    ⟨some (1, true), .mov (.r 9)⟩,
    ⟨some (2, true), .ixa 1 (.l 1) (.l 0)⟩,
    ⟨some (3, true), .ld false 1 (.l 0)⟩,
    ⟨some (4, true), .bin .eql (.l 0) (.v (.c (.d (.str [110, 111, 97, 110, 121]))))⟩,
    ⟨none, .pick (.l 5) (.l 0) (.v (.c (.d (.bool false))))⟩] [(15, 0)] []) (
  .cond (.r 15) (
  .seq (.reg false [⟨none, .fa 4 (.r 4)⟩,
    ⟨none, .st 1 (.l 0) (.v (.c (.d (.bool true))))⟩] [] []) (
  .reg false [⟨none, .mov (.r 9)⟩,
    ⟨none, .bin .add (.l 0) (.v (.c (.d (.int .i64 1))))⟩,
    ⟨none, .mov (.l 0)⟩] [(9, 0)] [])) (
  .skip))) (
  .seq (.reg false [⟨none, .ld true 5 (.r 4)⟩,
    ⟨none, .mov (.r 9)⟩,
    ⟨none, .mov (.r 3)⟩,
    ⟨none, .len (.l 0)⟩,
    ⟨none, .bin .eql (.l 2) (.l 0)⟩,
    ⟨none, .st 5 (.r 1) (.l 4)⟩,
    ⟨none, .mov (.l 1)⟩] [(2, 0)] []) (
  .ret)))))))))))⟩

/-- vidimus/vidimuslaw34.Few -/
def fn32 : Fn := ⟨1, 9, [0, 2, 4, 5, 9, 13, 17, 21, 25], [.cell 1 17 true],
  .seq (.reg false [⟨none, .new [.int .u8 0, .int .u32 0, .int .u32 0, .int .u32 0, .int .u32 0, .int .u32 0, .int .u32 0, .int .u32 0, .int .u32 0, .int .u32 0, .int .u32 0, .int .u32 0, .int .u32 0, .int .u32 0, .int .u32 0, .int .u32 0, .int .u32 0]⟩] [(1, 0)] []) (
  .seq (.seq (.reg false [⟨none, .mov (.r 0)⟩,
    ⟨none, .bin .rem (.l 0) (.v (.c (.d (.int .u8 7))))⟩] [(2, 0)] []) (
  .block 0 (
  .seq (.reg false [⟨none, .bin .eql (.r 2) (.v (.c (.d (.int .u8 0))))⟩,
    ⟨none, .mov (.l 0)⟩] [(3, 0)] []) (
  .cond (.r 3) (
  .seq (.reg false [⟨none, .bld [.int .u32 0, .int .u32 0, .int .u32 0, .int .u32 0, .int .u32 0, .int .u32 0, .int .u32 0, .int .u32 0, .int .u32 0, .int .u32 0, .int .u32 0, .int .u32 0, .int .u32 0, .int .u32 0, .int .u32 0, .int .u32 0] [(0, 1, (.v (.c (.d (.int .u32 1))))), (1, 1, (.v (.c (.d (.int .u32 2))))), (2, 1, (.v (.c (.d (.int .u32 3)))))]⟩,
    ⟨none, .bld [.int .u8 0, .int .u32 0, .int .u32 0, .int .u32 0, .int .u32 0, .int .u32 0, .int .u32 0, .int .u32 0, .int .u32 0, .int .u32 0, .int .u32 0, .int .u32 0, .int .u32 0, .int .u32 0, .int .u32 0, .int .u32 0, .int .u32 0] [(0, 1, (.v (.c (.d (.int .u8 3))))), (1, 16, (.l 0))]⟩,
    ⟨none, .st 17 (.r 1) (.l 0)⟩] [] []) (
  .ret)) (
  .seq (.reg false [⟨none, .bin .eql (.r 2) (.v (.c (.d (.int .u8 1))))⟩,
    ⟨none, .mov (.l 0)⟩] [(4, 0)] []) (
  .cond (.r 4) (
  .seq (.reg false [⟨none, .bld [.int .u32 0, .int .u32 0, .int .u32 0, .int .u32 0, .int .u32 0, .int .u32 0, .int .u32 0, .int .u32 0, .int .u32 0, .int .u32 0, .int .u32 0, .int .u32 0, .int .u32 0, .int .u32 0, .int .u32 0, .int .u32 0] [(0, 1, (.v (.c (.d (.int .u32 1))))), (1, 1, (.v (.c (.d (.int .u32 2))))), (2, 1, (.v (.c (.d (.int .u32 4)))))]⟩,
    ⟨none, .bld [.int .u8 0, .int .u32 0, .int .u32 0, .int .u32 0, .int .u32 0, .int .u32 0, .int .u32 0, .int .u32 0, .int .u32 0, .int .u32 0, .int .u32 0, .int .u32 0, .int .u32 0, .int .u32 0, .int .u32 0, .int .u32 0, .int .u32 0] [(0, 1, (.v (.c (.d (.int .u8 3))))), (1, 16, (.l 0))]⟩,
    ⟨none, .st 17 (.r 1) (.l 0)⟩] [] []) (
  .ret)) (
  .seq (.reg false [⟨none, .bin .eql (.r 2) (.v (.c (.d (.int .u8 2))))⟩,
    ⟨none, .mov (.l 0)⟩] [(5, 0)] []) (
  .cond (.r 5) (
  .seq (.reg false [⟨none, .bld [.int .u32 0, .int .u32 0, .int .u32 0, .int .u32 0, .int .u32 0, .int .u32 0, .int .u32 0, .int .u32 0, .int .u32 0, .int .u32 0, .int .u32 0, .int .u32 0, .int .u32 0, .int .u32 0, .int .u32 0, .int .u32 0] [(0, 1, (.v (.c (.d (.int .u32 1))))), (1, 1, (.v (.c (.d (.int .u32 2))))), (2, 1, (.v (.c (.d (.int .u32 3))))), (3, 1, (.v (.c (.d (.int .u32 1)))))]⟩,
    ⟨none, .bld [.int .u8 0, .int .u32 0, .int .u32 0, .int .u32 0, .int .u32 0, .int .u32 0, .int .u32 0, .int .u32 0, .int .u32 0, .int .u32 0, .int .u32 0, .int .u32 0, .int .u32 0, .int .u32 0, .int .u32 0, .int .u32 0, .int .u32 0] [(0, 1, (.v (.c (.d (.int .u8 4))))), (1, 16, (.l 0))]⟩,
    ⟨none, .st 17 (.r 1) (.l 0)⟩] [] []) (
  .ret)) (
  .seq (.reg false [⟨none, .bin .eql (.r 2) (.v (.c (.d (.int .u8 3))))⟩,
    ⟨none, .mov (.l 0)⟩] [(6, 0)] []) (
  .cond (.r 6) (
  .seq (.reg false [⟨none, .bld [.int .u32 0, .int .u32 0, .int .u32 0, .int .u32 0, .int .u32 0, .int .u32 0, .int .u32 0, .int .u32 0, .int .u32 0, .int .u32 0, .int .u32 0, .int .u32 0, .int .u32 0, .int .u32 0, .int .u32 0, .int .u32 0] [(0, 1, (.v (.c (.d (.int .u32 2))))), (1, 1, (.v (.c (.d (.int .u32 5))))), (2, 1, (.v (.c (.d (.int .u32 29))))), (3, 1, (.v (.c (.d (.int .u32 32)))))]⟩,
    ⟨none, .bld [.int .u8 0, .int .u32 0, .int .u32 0, .int .u32 0, .int .u32 0, .int .u32 0, .int .u32 0, .int .u32 0, .int .u32 0, .int .u32 0, .int .u32 0, .int .u32 0, .int .u32 0, .int .u32 0, .int .u32 0, .int .u32 0, .int .u32 0] [(0, 1, (.v (.c (.d (.int .u8 4))))), (1, 16, (.l 0))]⟩,
    ⟨none, .st 17 (.r 1) (.l 0)⟩] [] []) (
  .ret)) (
  .seq (.reg false [⟨none, .bin .eql (.r 2) (.v (.c (.d (.int .u8 4))))⟩,
    ⟨none, .mov (.l 0)⟩] [(7, 0)] []) (
  .cond (.r 7) (
  .seq (.reg false [⟨none, .bld [.int .u32 0, .int .u32 0, .int .u32 0, .int .u32 0, .int .u32 0, .int .u32 0, .int .u32 0, .int .u32 0, .int .u32 0, .int .u32 0, .int .u32 0, .int .u32 0, .int .u32 0, .int .u32 0, .int .u32 0, .int .u32 0] [(0, 1, (.v (.c (.d (.int .u32 2))))), (1, 1, (.v (.c (.d (.int .u32 5))))), (2, 1, (.v (.c (.d (.int .u32 30)))))]⟩,
    ⟨none, .bld [.int .u8 0, .int .u32 0, .int .u32 0, .int .u32 0, .int .u32 0, .int .u32 0, .int .u32 0, .int .u32 0, .int .u32 0, .int .u32 0, .int .u32 0, .int .u32 0, .int .u32 0, .int .u32 0, .int .u32 0, .int .u32 0, .int .u32 0] [(0, 1, (.v (.c (.d (.int .u8 3))))), (1, 16, (.l 0))]⟩,
    ⟨none, .st 17 (.r 1) (.l 0)⟩] [] []) (
  .ret)) (
  .seq (.reg false [⟨none, .bin .eql (.r 2) (.v (.c (.d (.int .u8 5))))⟩,
    ⟨none, .mov (.l 0)⟩] [(8, 0)] []) (
  .cond (.r 8) (
  .seq (.reg false [⟨none, .bld [.int .u32 0, .int .u32 0, .int .u32 0, .int .u32 0, .int .u32 0, .int .u32 0, .int .u32 0, .int .u32 0, .int .u32 0, .int .u32 0, .int .u32 0, .int .u32 0, .int .u32 0, .int .u32 0, .int .u32 0, .int .u32 0] [(0, 1, (.v (.c (.d (.int .u32 2))))), (1, 1, (.v (.c (.d (.int .u32 16)))))]⟩,
    ⟨none, .bld [.int .u8 0, .int .u32 0, .int .u32 0, .int .u32 0, .int .u32 0, .int .u32 0, .int .u32 0, .int .u32 0, .int .u32 0, .int .u32 0, .int .u32 0, .int .u32 0, .int .u32 0, .int .u32 0, .int .u32 0, .int .u32 0, .int .u32 0] [(0, 1, (.v (.c (.d (.int .u8 2))))), (1, 16, (.l 0))]⟩,
    ⟨none, .st 17 (.r 1) (.l 0)⟩] [] []) (
  .ret)) (
  .skip))))))))))))))) (
  .seq (.reg false [⟨none, .vc 51 []⟩,
    ⟨none, .st 17 (.r 1) (.l 0)⟩] [] []) (
  .ret)))⟩

/-- vidimus/anchors.Check -/
def fn33 : Fn := ⟨1, 7, [0, 1, 2, 3, 7, 12, 17], [.r 2],
  .seq (.reg false [⟨none, .box (.r 0)⟩,
    ⟨none, .mov (.v (.c (.d (.int .i64 0))))⟩] [(1, 1), (2, 0)] []) (
  .seq (.seq (.reg false [⟨none, .fa 0 (.r 1)⟩,
    ⟨none, .ld false 1 (.l 0)⟩,
    ⟨none, .vc 70 [(.l 0)]⟩,
    ⟨none, .un .not (.l 0)⟩] [(4, 0)] []) (
  .cond (.r 4) (
  .seq (.reg false [⟨none, .mov (.v (.c (.d (.int .i64 18))))⟩] [(2, 0)] []) (
  .ret)) (
  .skip))) (
  .seq (.seq (.reg false [⟨none, .fa 1 (.r 1)⟩,
    ⟨none, .ld false 1 (.l 0)⟩,
    ⟨none, .vc 19 [(.l 0)]⟩,
    ⟨none, .mov (.l 0)⟩] [(3, 0)] []) (
  .seq (.reg false [⟨none, .mov (.r 3)⟩,
    ⟨none, .bin .neq (.l 0) (.v (.c (.d (.int .i64 0))))⟩] [(5, 0)] []) (
  .cond (.r 5) (
  .seq (.reg false [⟨none, .mov (.r 3)⟩,
    ⟨none, .mov (.l 0)⟩] [(2, 0)] []) (
  .ret)) (
  .skip)))) (
  .seq (.seq (.reg false [⟨none, .fa 1 (.r 1)⟩,
    ⟨none, .ld false 1 (.l 0)⟩,
    ⟨none, .len (.l 0)⟩,
    ⟨none, .bin .eql (.l 0) (.v (.c (.d (.int .i64 0))))⟩] [(6, 0)] []) (
  .cond (.r 6) (
  .seq (.reg false [⟨none, .mov (.v (.c (.d (.int .i64 17))))⟩] [(2, 0)] []) (
  .ret)) (
  .skip))) (
  .seq (.reg false [⟨none, .mov (.v (.c (.d (.int .i64 0))))⟩] [(2, 0)] []) (
  .ret)))))⟩

/-- vidimus/anchors.CheckAll -/
def fn34 : Fn := ⟨1, 12, [0, 2, 3, 4, 5, 8, 9, 10, 11, 12, 19, 33], [.r 1],
  .seq (.reg false [⟨none, .mov (.v (.c (.d (.int .i64 0))))⟩] [(1, 0)] []) (
  .seq (.seq (.reg false [⟨none, .mov (.r 0)⟩,
    ⟨none, .len (.l 0)⟩,
    ⟨none, .bin .gtr (.l 0) (.v (.c (.d (.int .i64 256))))⟩] [(5, 0)] []) (
  .cond (.r 5) (
  .seq (.reg false [⟨none, .mov (.v (.c (.d (.int .i64 3))))⟩] [(1, 0)] []) (
  .ret)) (
  .skip))) (
  .seq (.seq (.reg false [⟨none, .mov (.r 0)⟩,
    ⟨none, .len (.l 0)⟩,
    ⟨none, .mov (.v (.c (.d (.int .i64 0))))⟩] [(6, 2), (7, 1), (8, 0)] []) (
  .block 0 (
  .loop (some [0, 6, 7, 8]) (
  .seq (.reg false [⟨none, .bin .lss (.r 8) (.r 7)⟩] [(9, 0)] []) (
  .seq (.cond (.r 9) (
  .skip) (
  .exit 0)) (
  .seq (.block 1 (
  .seq (.reg false [⟨none, .mov (.r 8)⟩,
    ⟨none, .ixa 5 (.r 6) (.r 8)⟩,
    ⟨none, .ld true 5 (.l 0)⟩,
    ⟨none, .pre⟩,
    ⟨none, .mov (.l 3)⟩,
    ⟨none, .ini 5 (.l 2)⟩] [(2, 1), (3, 0)] []) (
  .seq (.seq (.reg false [⟨none, .ld true 5 (.r 3)⟩,
    ⟨none, .vc 33 [(.l 0)]⟩,
    ⟨none, .mov (.l 0)⟩] [(4, 0)] []) (
  .seq (.reg false [⟨none, .mov (.r 4)⟩,
    ⟨none, .bin .neq (.l 0) (.v (.c (.d (.int .i64 0))))⟩] [(10, 0)] []) (
  .cond (.r 10) (
  .seq (.reg false [⟨none, .mov (.r 4)⟩,
    ⟨none, .mov (.l 0)⟩] [(1, 0)] []) (
  .ret)) (
  .skip)))) (
  .seq (.reg true [⟨none, .mov (.r 2)⟩,
    ⟨none, .bin .gtr (.l 0) (.v (.c (.d (.int .i64 0))))⟩,
    ⟨none, .mov (.l 0)⟩,
    ⟨some (0, true), .mov (.r 0)⟩,
    ⟨some (1, true), .mov (.r 2)⟩,
    ⟨some (2, true), .bin .sub (.l 0) (.v (.c (.d (.int .i64 1))))⟩,
    ⟨some (3, true), .ixa 5 (.l 2) (.l 0)⟩,
    ⟨some (4, true), .fa 0 (.l 0)⟩,
    ⟨some (5, true), .ld false 1 (.l 0)⟩,
    ⟨some (6, true), .fa 0 (.r 3)⟩,
    ⟨some (7, true), .ld false 1 (.l 0)⟩,
    ⟨some (8, true), .bin .geq (.l 2) (.l 0)⟩,
    ⟨none, .pick (.l 9) (.l 0) (.v (.c (.d (.bool false))))⟩] [(11, 0)] []) (
  .cond (.r 11) (
  .seq (.reg false [⟨none, .mov (.v (.c (.d (.int .i64 13))))⟩] [(1, 0)] []) (
  .ret)) (
  .skip)))))) (
  .reg false [⟨none, .bin .add (.r 8) (.v (.c (.d (.int .i64 1))))⟩,
    ⟨none, .mov (.l 0)⟩] [(8, 0)] []))))))) (
  .seq (.reg false [⟨none, .mov (.v (.c (.d (.int .i64 0))))⟩] [(1, 0)] []) (
  .ret))))⟩

/-- vidimus/anchors.Find -/
def fn42 : Fn := ⟨2, 12, [0, 1, 4, 5, 6, 8, 12, 15, 16, 17, 18, 24], [.cell 2 5 true, .r 3],
  .seq (.reg false [⟨none, .new [.str [], .nils, .bool false, .bool false, .bool false]⟩,
    ⟨none, .mov (.v (.c (.d (.int .i64 0))))⟩] [(2, 1), (3, 0)] []) (
  .seq (.seq (.reg false [⟨none, .mov (.r 0)⟩,
    ⟨none, .vc 34 [(.l 0)]⟩,
    ⟨none, .mov (.l 0)⟩] [(4, 0)] []) (
  .seq (.reg false [⟨none, .mov (.r 4)⟩,
    ⟨none, .bin .neq (.l 0) (.v (.c (.d (.int .i64 0))))⟩] [(6, 0)] []) (
  .cond (.r 6) (
  .seq (.reg false [⟨none, .bld [.str [], .nils, .bool false, .bool false, .bool false] []⟩,
    ⟨none, .mov (.r 4)⟩,
    ⟨none, .st 5 (.r 2) (.l 1)⟩,
    ⟨none, .mov (.l 1)⟩] [(3, 0)] []) (
  .ret)) (
  .skip)))) (
  .seq (.seq (.reg false [⟨none, .mov (.r 0)⟩,
    ⟨none, .len (.l 0)⟩,
    ⟨none, .mov (.v (.c (.d (.int .i64 0))))⟩] [(7, 2), (8, 1), (9, 0)] []) (
  .block 0 (
  .loop (some [1, 2, 7, 8, 9]) (
  .seq (.reg false [⟨none, .bin .lss (.r 9) (.r 8)⟩] [(10, 0)] []) (
  .seq (.cond (.r 10) (
  .skip) (
  .exit 0)) (
  .seq (.block 1 (
  .seq (.reg false [⟨none, .ixa 5 (.r 7) (.r 9)⟩,
    ⟨none, .ld true 5 (.l 0)⟩,
    ⟨none, .pre⟩,
    ⟨none, .ini 5 (.l 1)⟩] [(5, 0)] []) (
  .seq (.reg false [⟨none, .fa 0 (.r 5)⟩,
    ⟨none, .ld false 1 (.l 0)⟩,
    ⟨none, .mov (.r 1)⟩,
    ⟨none, .bin .eql (.l 1) (.l 0)⟩] [(11, 0)] []) (
  .cond (.r 11) (
  .seq (.reg false [⟨none, .fa 1 (.r 5)⟩,
    ⟨none, .ld false 1 (.l 0)⟩,
    ⟨none, .vc 67 [(.l 0)]⟩,
    ⟨none, .fa 1 (.r 5)⟩,
    ⟨none, .st 1 (.l 0) (.l 1)⟩] [] []) (
  .seq (.reg false [⟨none, .ld true 5 (.r 5)⟩,
    ⟨none, .st 5 (.r 2) (.l 0)⟩,
    ⟨none, .mov (.v (.c (.d (.int .i64 0))))⟩] [(3, 0)] []) (
  .ret))) (
  .skip))))) (
  .reg false [⟨none, .bin .add (.r 9) (.v (.c (.d (.int .i64 1))))⟩,
    ⟨none, .mov (.l 0)⟩] [(9, 0)] []))))))) (
  .seq (.reg false [⟨none, .bld [.str [], .nils, .bool false, .bool false, .bool false] []⟩,
    ⟨none, .st 5 (.r 2) (.l 0)⟩,
    ⟨none, .mov (.v (.c (.d (.int .i64 19))))⟩] [(3, 0)] []) (
  .ret))))⟩

/-- vidimus/vidimusref34.Any -/
def fn51 : Fn := ⟨0, 1, [0], [.cell 0 17 true],
  .seq (.reg false [⟨none, .new [.int .u8 0, .int .u32 0, .int .u32 0, .int .u32 0, .int .u32 0, .int .u32 0, .int .u32 0, .int .u32 0, .int .u32 0, .int .u32 0, .int .u32 0, .int .u32 0, .int .u32 0, .int .u32 0, .int .u32 0, .int .u32 0, .int .u32 0]⟩] [(0, 0)] []) (
  .seq (.reg false [⟨none, .bld [.int .u32 0, .int .u32 0, .int .u32 0, .int .u32 0, .int .u32 0, .int .u32 0, .int .u32 0, .int .u32 0, .int .u32 0, .int .u32 0, .int .u32 0, .int .u32 0, .int .u32 0, .int .u32 0, .int .u32 0, .int .u32 0] [(0, 1, (.v (.c (.d (.int .u32 2))))), (1, 1, (.v (.c (.d (.int .u32 5))))), (2, 1, (.v (.c (.d (.int .u32 29))))), (3, 1, (.v (.c (.d (.int .u32 32))))), (4, 1, (.v (.c (.d (.int .u32 0)))))]⟩,
    ⟨none, .bld [.int .u8 0, .int .u32 0, .int .u32 0, .int .u32 0, .int .u32 0, .int .u32 0, .int .u32 0, .int .u32 0, .int .u32 0, .int .u32 0, .int .u32 0, .int .u32 0, .int .u32 0, .int .u32 0, .int .u32 0, .int .u32 0, .int .u32 0] [(0, 1, (.v (.c (.d (.int .u8 5))))), (1, 16, (.l 0))]⟩,
    ⟨none, .st 17 (.r 0) (.l 0)⟩] [] []) (
  .ret))⟩

/-- vidimus/anchors.meet -/
def fn52 : Fn := ⟨2, 15, [0, 1, 4, 5, 6, 7, 9, 16, 23, 27, 31, 32, 33, 34, 39], [.r 2],
  .seq (.reg false [⟨none, .mov (.v (.c (.d (.nils))))⟩] [(2, 0)] []) (
  .seq (.reg false [⟨none, .mov (.r 0)⟩,
    ⟨none, .vc 83 []⟩,
    ⟨none, .vc 84 [(.l 1), (.l 0)]⟩,
    ⟨none, .mov (.r 1)⟩,
    ⟨none, .vc 83 []⟩,
    ⟨none, .vc 84 [(.l 1), (.l 0)]⟩,
    ⟨none, .mov (.l 3)⟩,
    ⟨none, .mov (.l 1)⟩] [(3, 1), (4, 0)] []) (
  .seq (.block 0 (
  .seq (.reg false [⟨none, .mov (.r 3)⟩,
    ⟨none, .mov (.l 0)⟩,
    ⟨some (0, true), .mov (.r 4)⟩,
    ⟨none, .pick (.l 1) (.l 0) (.v (.c (.d (.bool false))))⟩,
    ⟨none, .mov (.l 0)⟩] [(7, 0)] []) (
  .cond (.r 7) (
  .seq (.reg false [⟨none, .vc 83 []⟩,
    ⟨none, .bsl 1 17 [.int .u8 0, .int .u32 0, .int .u32 0, .int .u32 0, .int .u32 0, .int .u32 0, .int .u32 0, .int .u32 0, .int .u32 0, .int .u32 0, .int .u32 0, .int .u32 0, .int .u32 0, .int .u32 0, .int .u32 0, .int .u32 0, .int .u32 0] [(0, 17, (.l 0))]⟩,
    ⟨none, .mov (.l 0)⟩] [(2, 0)] []) (
  .ret)) (
  .seq (.reg false [⟨none, .mov (.r 3)⟩,
    ⟨none, .mov (.l 0)⟩] [(8, 0)] []) (
  .cond (.r 8) (
  .seq (.reg false [⟨none, .mov (.r 1)⟩,
    ⟨none, .hc (.v (.c (.d (.fn 67 [] [])))) [(.l 0)]⟩,
    ⟨none, .mov (.l 0)⟩] [(2, 0)] []) (
  .ret)) (
  .seq (.reg false [⟨none, .mov (.r 4)⟩,
    ⟨none, .mov (.l 0)⟩] [(9, 0)] []) (
  .cond (.r 9) (
  .seq (.reg false [⟨none, .mov (.r 0)⟩,
    ⟨none, .hc (.v (.c (.d (.fn 67 [] [])))) [(.l 0)]⟩,
    ⟨none, .mov (.l 0)⟩] [(2, 0)] []) (
  .ret)) (
  .skip)))))))) (
  .seq (.reg false [⟨none, .mov (.v (.c (.d (.nils))))⟩] [(5, 0)] []) (
  .seq (.seq (.reg false [⟨none, .mov (.r 0)⟩,
    ⟨none, .len (.l 0)⟩,
    ⟨none, .mov (.v (.c (.d (.int .i64 0))))⟩] [(10, 2), (11, 1), (12, 0)] []) (
  .block 1 (
  .seq (.fresh 5 none 17) (
  .loop (some [1, 5, 10, 11, 12]) (
  .seq (.reg false [⟨none, .bin .lss (.r 12) (.r 11)⟩] [(13, 0)] []) (
  .seq (.cond (.r 13) (
  .skip) (
  .exit 1)) (
  .seq (.block 2 (
  .seq (.reg false [⟨none, .ixa 17 (.r 10) (.r 12)⟩,
    ⟨none, .ld true 17 (.l 0)⟩,
    ⟨none, .pre⟩,
    ⟨none, .ini 17 (.l 1)⟩] [(6, 0)] []) (
  .seq (.reg false [⟨none, .mov (.r 1)⟩,
    ⟨none, .ld true 17 (.r 6)⟩,
    ⟨none, .vc 84 [(.l 1), (.l 0)]⟩] [(14, 0)] []) (
  .cond (.r 14) (
  .reg false [⟨none, .mov (.r 5)⟩,
    ⟨none, .ld true 17 (.r 6)⟩,
    ⟨none, .bsl 1 17 [.int .u8 0, .int .u32 0, .int .u32 0, .int .u32 0, .int .u32 0, .int .u32 0, .int .u32 0, .int .u32 0, .int .u32 0, .int .u32 0, .int .u32 0, .int .u32 0, .int .u32 0, .int .u32 0, .int .u32 0, .int .u32 0, .int .u32 0] [(0, 17, (.l 0))]⟩,
    ⟨none, .app 17 (.l 2) (.l 0)⟩,
    ⟨none, .mov (.l 0)⟩] [(5, 0)] []) (
  .skip))))) (
  .reg false [⟨none, .bin .add (.r 12) (.v (.c (.d (.int .i64 1))))⟩,
    ⟨none, .mov (.l 0)⟩] [(12, 0)] [])))))))) (
  .seq (.reg false [⟨none, .mov (.r 5)⟩,
    ⟨none, .hc (.v (.c (.d (.fn 67 [] [])))) [(.l 0)]⟩,
    ⟨none, .mov (.l 0)⟩] [(2, 0)] []) (
  .ret))))))⟩

/-- vidimus/oids.Check -/
def fn53 : Fn := ⟨1, 11, [0, 1, 2, 4, 18, 34, 38, 39, 40, 41, 45], [.r 2],
  .seq (.reg false [⟨none, .box (.r 0)⟩,
    ⟨none, .mov (.v (.c (.d (.int .i64 0))))⟩] [(1, 1), (2, 0)] []) (
  .seq (.seq (.reg false [⟨none, .fa 0 (.r 1)⟩,
    ⟨none, .ld false 1 (.l 0)⟩,
    ⟨none, .bin .lss (.l 0) (.v (.c (.d (.int .u8 2))))⟩,
    ⟨none, .mov (.l 0)⟩,
    ⟨some (0, false), .fa 0 (.r 1)⟩,
    ⟨some (1, false), .ld false 1 (.l 0)⟩,
    ⟨some (2, false), .bin .gtr (.l 0) (.v (.c (.d (.int .u8 16))))⟩,
    ⟨none, .pick (.l 3) (.v (.c (.d (.bool true)))) (.l 0)⟩,
    ⟨none, .mov (.l 0)⟩,
    ⟨some (0, false), .fa 1 (.r 1)⟩,
    ⟨some (1, false), .ixp 16 1 (.l 0) (.v (.c (.d (.int .i64 0))))⟩,
    ⟨some (2, false), .ld false 1 (.l 0)⟩,
    ⟨some (3, false), .bin .gtr (.l 0) (.v (.c (.d (.int .u32 2))))⟩,
    ⟨none, .pick (.l 4) (.v (.c (.d (.bool true)))) (.l 0)⟩] [(4, 0)] []) (
  .cond (.r 4) (
  .seq (.reg false [⟨none, .mov (.v (.c (.d (.int .i64 1))))⟩] [(2, 0)] []) (
  .ret)) (
  .skip))) (
  .seq (.seq (.reg false [⟨none, .fa 1 (.r 1)⟩,
    ⟨none, .ixp 16 1 (.l 0) (.v (.c (.d (.int .i64 0))))⟩,
    ⟨none, .ld false 1 (.l 0)⟩,
    ⟨none, .bin .lss (.l 0) (.v (.c (.d (.int .u32 2))))⟩,
    ⟨none, .mov (.l 0)⟩,
    ⟨some (0, true), .fa 1 (.r 1)⟩,
    ⟨some (1, true), .ixp 16 1 (.l 0) (.v (.c (.d (.int .i64 1))))⟩,
    ⟨some (2, true), .ld false 1 (.l 0)⟩,
    ⟨some (3, true), .bin .gtr (.l 0) (.v (.c (.d (.int .u32 39))))⟩,
    ⟨none, .pick (.l 4) (.l 0) (.v (.c (.d (.bool false))))⟩,
    ⟨none, .mov (.l 0)⟩,
    ⟨some (0, false), .fa 1 (.r 1)⟩,
    ⟨some (1, false), .ixp 16 1 (.l 0) (.v (.c (.d (.int .i64 1))))⟩,
    ⟨some (2, false), .ld false 1 (.l 0)⟩,
    ⟨some (3, false), .bin .gtr (.l 0) (.v (.c (.d (.int .u32 4294967215))))⟩,
    ⟨none, .pick (.l 4) (.v (.c (.d (.bool true)))) (.l 0)⟩] [(5, 0)] []) (
  .cond (.r 5) (
  .seq (.reg false [⟨none, .mov (.v (.c (.d (.int .i64 1))))⟩] [(2, 0)] []) (
  .ret)) (
  .skip))) (
  .seq (.seq (.reg false [⟨none, .fa 1 (.r 1)⟩,
    ⟨none, .fa 0 (.r 1)⟩,
    ⟨none, .ld false 1 (.l 0)⟩,
    ⟨none, .slp 16 1 (.l 2) (some (.l 0)) none none⟩,
    ⟨none, .len (.l 0)⟩,
    ⟨none, .mov (.v (.c (.d (.int .i64 0))))⟩] [(6, 2), (7, 1), (8, 0)] []) (
  .block 0 (
  .loop (some [6, 7, 8]) (
  .seq (.reg false [⟨none, .bin .lss (.r 8) (.r 7)⟩] [(9, 0)] []) (
  .seq (.cond (.r 9) (
  .skip) (
  .exit 0)) (
  .seq (.block 1 (
  .seq (.reg false [⟨none, .ixa 1 (.r 6) (.r 8)⟩,
    ⟨none, .ld false 1 (.l 0)⟩,
    ⟨none, .mov (.l 0)⟩] [(3, 0)] []) (
  .seq (.reg false [⟨none, .mov (.r 3)⟩,
    ⟨none, .bin .neq (.l 0) (.v (.c (.d (.int .u32 0))))⟩] [(10, 0)] []) (
  .cond (.r 10) (
  .seq (.reg false [⟨none, .mov (.v (.c (.d (.int .i64 1))))⟩] [(2, 0)] []) (
  .ret)) (
  .skip))))) (
  .reg false [⟨none, .bin .add (.r 8) (.v (.c (.d (.int .i64 1))))⟩,
    ⟨none, .mov (.l 0)⟩] [(8, 0)] []))))))) (
  .seq (.reg false [⟨none, .mov (.v (.c (.d (.int .i64 0))))⟩] [(2, 0)] []) (
  .ret)))))⟩

/-- vidimus/oids.Compare -/
def fn54 : Fn := ⟨2, 5, [0, 1, 2, 3, 4], [.r 4],
  .seq (.reg false [⟨none, .box (.r 0)⟩,
    ⟨none, .box (.r 1)⟩,
    ⟨none, .mov (.v (.c (.d (.int .i64 0))))⟩] [(2, 2), (3, 1), (4, 0)] []) (
  .seq (.reg false [⟨none, .hc (.v (.c (.d (.fn 86 [] [])))) [(.r 2)]⟩,
    ⟨none, .hc (.v (.c (.d (.fn 86 [] [])))) [(.r 3)]⟩,
    ⟨none, .vc 85 [(.l 1), (.l 0)]⟩,
    ⟨none, .mov (.l 0)⟩] [(4, 0)] []) (
  .ret))⟩

/-- vidimus/vidimusref34.Has -/
def fn55 : Fn := ⟨2, 7, [0, 1, 3, 4, 5, 9, 17], [.r 3],
  .seq (.reg false [⟨none, .box (.r 1)⟩,
    ⟨none, .mov (.v (.c (.d (.bool false))))⟩] [(2, 1), (3, 0)] []) (
  .seq (.seq (.reg false [⟨none, .mov (.v (.c (.d (.int .i64 0))))⟩] [(4, 0)] []) (
  .block 0 (
  .loop (some [0, 2, 4]) (
  .seq (.seq (.reg false [⟨none, .mov (.r 4)⟩,
    ⟨none, .mov (.r 0)⟩,
    ⟨none, .len (.l 0)⟩,
    ⟨none, .bin .lss (.l 2) (.l 0)⟩] [(5, 0)] []) (
  .cond (.r 5) (
  .skip) (
  .exit 0))) (
  .seq (.block 1 (
  .seq (.reg true [⟨none, .mov (.r 0)⟩,
    ⟨none, .mov (.r 4)⟩,
    ⟨none, .ixa 17 (.l 1) (.l 0)⟩,
    ⟨none, .ld true 17 (.l 0)⟩,
    ⟨none, .ld true 17 (.r 2)⟩,
    ⟨none, .eqa false 17 (.l 1) (.l 0)⟩] [(6, 0)] []) (
  .cond (.r 6) (
  .seq (.reg false [⟨none, .mov (.v (.c (.d (.bool true))))⟩] [(3, 0)] []) (
  .ret)) (
  .skip)))) (
  .reg false [⟨none, .mov (.r 4)⟩,
    ⟨none, .bin .add (.l 0) (.v (.c (.d (.int .i64 1))))⟩,
    ⟨none, .mov (.l 0)⟩] [(4, 0)] [])))))) (
  .seq (.reg false [⟨none, .mov (.v (.c (.d (.bool false))))⟩] [(3, 0)] []) (
  .ret)))⟩

/-- vidimus/vidimusref39.Name -/
def fn56 : Fn := ⟨1, 8, [0, 2, 3, 4, 5, 23, 27, 61], [.r 1],
  .seq (.reg false [⟨none, .mov (.v (.c (.d (.bool false))))⟩] [(1, 0)] []) (
  .seq (.seq (.reg false [⟨none, .mov (.r 0)⟩,
    ⟨none, .lns (.l 0)⟩,
    ⟨none, .bin .lss (.l 0) (.v (.c (.d (.int .i64 1))))⟩,
    ⟨none, .mov (.l 0)⟩,
    ⟨some (0, false), .mov (.r 0)⟩,
    ⟨some (1, false), .lns (.l 0)⟩,
    ⟨some (2, false), .bin .gtr (.l 0) (.v (.c (.d (.int .i64 32))))⟩,
    ⟨none, .pick (.l 3) (.v (.c (.d (.bool true)))) (.l 0)⟩,
    ⟨none, .mov (.l 0)⟩,
    ⟨some (0, false), .mov (.r 0)⟩,
    ⟨some (1, false), .ixs (.l 0) (.v (.c (.d (.int .i64 0))))⟩,
    ⟨some (2, false), .bin .lss (.l 0) (.v (.c (.d (.int .u8 97))))⟩,
    ⟨none, .pick (.l 3) (.v (.c (.d (.bool true)))) (.l 0)⟩,
    ⟨none, .mov (.l 0)⟩,
    ⟨some (0, false), .mov (.r 0)⟩,
    ⟨some (1, false), .ixs (.l 0) (.v (.c (.d (.int .i64 0))))⟩,
    ⟨some (2, false), .bin .gtr (.l 0) (.v (.c (.d (.int .u8 122))))⟩,
    ⟨none, .pick (.l 3) (.v (.c (.d (.bool true)))) (.l 0)⟩] [(5, 0)] []) (
  .cond (.r 5) (
  .seq (.reg false [⟨none, .mov (.v (.c (.d (.bool false))))⟩] [(1, 0)] []) (
  .ret)) (
  .skip))) (
  .seq (.seq (.reg false [⟨none, .mov (.v (.c (.d (.int .i64 0))))⟩] [(2, 0)] []) (
  .block 0 (
  .loop (some [0, 2]) (
  .seq (.seq (.reg false [⟨none, .mov (.r 2)⟩,
    ⟨none, .mov (.r 0)⟩,
    ⟨none, .lns (.l 0)⟩,
    ⟨none, .bin .lss (.l 2) (.l 0)⟩] [(6, 0)] []) (
  .cond (.r 6) (
  .skip) (
  .exit 0))) (
  .seq (.block 1 (
  .seq (.reg false [⟨none, .mov (.r 0)⟩,
    ⟨none, .mov (.r 2)⟩,
    ⟨none, .ixs (.l 1) (.l 0)⟩,
    ⟨none, .bin .geq (.l 0) (.v (.c (.d (.int .u8 97))))⟩,
    ⟨none, .mov (.l 0)⟩,
    ⟨some (0, true), .mov (.r 0)⟩,
    ⟨some (1, true), .mov (.r 2)⟩,
    ⟨some (2, true), .ixs (.l 1) (.l 0)⟩,
    ⟨some (3, true), .bin .leq (.l 0) (.v (.c (.d (.int .u8 122))))⟩,
    ⟨none, .pick (.l 4) (.l 0) (.v (.c (.d (.bool false))))⟩,
    ⟨none, .mov (.l 0)⟩] [(3, 0)] []) (
  .seq (.reg false [⟨none, .mov (.r 0)⟩,
    ⟨none, .mov (.r 2)⟩,
    ⟨none, .ixs (.l 1) (.l 0)⟩,
    ⟨none, .bin .geq (.l 0) (.v (.c (.d (.int .u8 48))))⟩,
    ⟨none, .mov (.l 0)⟩,
    ⟨some (0, true), .mov (.r 0)⟩,
    ⟨some (1, true), .mov (.r 2)⟩,
    ⟨some (2, true), .ixs (.l 1) (.l 0)⟩,
    ⟨some (3, true), .bin .leq (.l 0) (.v (.c (.d (.int .u8 57))))⟩,
    ⟨none, .pick (.l 4) (.l 0) (.v (.c (.d (.bool false))))⟩,
    ⟨none, .mov (.l 0)⟩] [(4, 0)] []) (
  .seq (.reg false [⟨none, .mov (.r 3)⟩,
    ⟨none, .un .not (.l 0)⟩,
    ⟨none, .mov (.l 0)⟩,
    ⟨some (0, true), .mov (.r 4)⟩,
    ⟨some (1, true), .un .not (.l 0)⟩,
    ⟨none, .pick (.l 2) (.l 0) (.v (.c (.d (.bool false))))⟩,
    ⟨none, .mov (.l 0)⟩,
    ⟨some (0, true), .mov (.r 0)⟩,
    ⟨some (1, true), .mov (.r 2)⟩,
    ⟨some (2, true), .ixs (.l 1) (.l 0)⟩,
    ⟨some (3, true), .bin .neq (.l 0) (.v (.c (.d (.int .u8 45))))⟩,
    ⟨none, .pick (.l 4) (.l 0) (.v (.c (.d (.bool false))))⟩] [(7, 0)] []) (
  .cond (.r 7) (
  .seq (.reg false [⟨none, .mov (.v (.c (.d (.bool false))))⟩] [(1, 0)] []) (
  .ret)) (
  .skip)))))) (
  .reg false [⟨none, .mov (.r 2)⟩,
    ⟨none, .bin .add (.l 0) (.v (.c (.d (.int .i64 1))))⟩,
    ⟨none, .mov (.l 0)⟩] [(2, 0)] [])))))) (
  .seq (.reg false [⟨none, .mov (.v (.c (.d (.bool true))))⟩] [(1, 0)] []) (
  .ret))))⟩

/-- (vidimus/vidimuslaw39.A).Of -/
def fn57 : Fn := ⟨2, 8, [0, 1, 2, 4, 5, 6, 29, 45], [.cell 3 5 true],
  .seq (.reg false [⟨none, .box (.r 0)⟩,
    ⟨none, .new [.str [], .nils, .bool false, .bool false, .bool false]⟩] [(2, 1), (3, 0)] []) (
  .seq (.reg false [⟨none, .mov (.r 1)⟩,
    ⟨none, .fa 1 (.r 2)⟩,
    ⟨none, .ld false 1 (.l 0)⟩,
    ⟨none, .bin .and (.l 0) (.v (.c (.d (.int .u8 1))))⟩,
    ⟨none, .bin .gtr (.l 0) (.v (.c (.d (.int .u8 0))))⟩,
    ⟨none, .fa 1 (.r 2)⟩,
    ⟨none, .ld false 1 (.l 0)⟩,
    ⟨none, .bin .and (.l 0) (.v (.c (.d (.int .u8 2))))⟩,
    ⟨none, .bin .gtr (.l 0) (.v (.c (.d (.int .u8 0))))⟩,
    ⟨none, .fa 1 (.r 2)⟩,
    ⟨none, .ld false 1 (.l 0)⟩,
    ⟨none, .bin .and (.l 0) (.v (.c (.d (.int .u8 4))))⟩,
    ⟨none, .bin .gtr (.l 0) (.v (.c (.d (.int .u8 0))))⟩,
    ⟨none, .bld [.str [], .nils, .bool false, .bool false, .bool false] [(0, 1, (.l 12)), (2, 1, (.l 8)), (3, 1, (.l 4)), (4, 1, (.l 0))]⟩,
    ⟨none, .pre⟩,
    ⟨none, .ini 5 (.l 1)⟩] [(4, 0)] []) (
  .seq (.seq (.reg false [⟨none, .mov (.v (.c (.d (.int .i64 0))))⟩] [(5, 0)] []) (
  .block 0 (
  .loop (some [2, 3, 4, 5]) (
  .seq (.seq (.reg false [⟨none, .mov (.r 5)⟩,
    ⟨none, .fa 0 (.r 2)⟩,
    ⟨none, .ld false 1 (.l 0)⟩,
    ⟨none, .len (.l 0)⟩,
    ⟨none, .bin .lss (.l 3) (.l 0)⟩,
    ⟨none, .mov (.l 0)⟩,
    ⟨some (0, true), .mov (.r 5)⟩,
    ⟨some (1, true), .bin .lss (.l 0) (.v (.c (.d (.int .i64 4))))⟩,
    ⟨none, .pick (.l 2) (.l 0) (.v (.c (.d (.bool false))))⟩] [(6, 0)] []) (
  .cond (.r 6) (
  .skip) (
  .exit 0))) (
  .seq (.block 1 (
  .reg true [⟨none, .fa 1 (.r 4)⟩,
    ⟨none, .ld false 1 (.l 0)⟩,
    ⟨none, .fa 0 (.r 2)⟩,
    ⟨none, .ld false 1 (.l 0)⟩,
    ⟨none, .mov (.r 5)⟩,
    ⟨none, .ixa 1 (.l 1) (.l 0)⟩,
    ⟨none, .ld false 1 (.l 0)⟩,
    ⟨none, .vc 32 [(.l 0)]⟩,
    ⟨none, .vc 78 [(.l 6), (.l 0)]⟩,
    ⟨none, .fa 1 (.r 4)⟩,
    ⟨none, .st 1 (.l 0) (.l 1)⟩] [] [])) (
  .reg false [⟨none, .mov (.r 5)⟩,
    ⟨none, .bin .add (.l 0) (.v (.c (.d (.int .i64 1))))⟩,
    ⟨none, .mov (.l 0)⟩] [(5, 0)] [])))))) (
  .seq (.seq (.reg false [⟨none, .fa 1 (.r 4)⟩,
    ⟨none, .ld false 1 (.l 0)⟩,
    ⟨none, .len (.l 0)⟩,
    ⟨none, .bin .eql (.l 0) (.v (.c (.d (.int .i64 0))))⟩] [(7, 0)] []) (
  .cond (.r 7) (
  .reg false [⟨none, .vc 32 [(.v (.c (.d (.int .u8 0))))]⟩,
    ⟨none, .bsl 1 17 [.int .u8 0, .int .u32 0, .int .u32 0, .int .u32 0, .int .u32 0, .int .u32 0, .int .u32 0, .int .u32 0, .int .u32 0, .int .u32 0, .int .u32 0, .int .u32 0, .int .u32 0, .int .u32 0, .int .u32 0, .int .u32 0, .int .u32 0] [(0, 17, (.l 0))]⟩,
    ⟨none, .fa 1 (.r 4)⟩,
    ⟨none, .st 1 (.l 0) (.l 1)⟩] [] []) (
  .skip))) (
  .seq (.reg false [⟨none, .ld true 5 (.r 4)⟩,
    ⟨none, .st 5 (.r 3) (.l 0)⟩] [] []) (
  .ret)))))⟩

/-- vidimus/vidimusref39.OID -/
def fn58 : Fn := ⟨1, 7, [0, 1, 2, 3, 4, 9, 13], [.r 2],
  .seq (.reg false [⟨none, .box (.r 0)⟩,
    ⟨none, .mov (.v (.c (.d (.str []))))⟩] [(1, 1), (2, 0)] []) (
  .seq (.reg false [⟨none, .mov (.v (.c (.d (.str []))))⟩] [(3, 0)] []) (
  .seq (.seq (.reg false [⟨none, .mov (.v (.c (.d (.int .i64 0))))⟩] [(4, 0)] []) (
  .block 0 (
  .loop (some [1, 3, 4]) (
  .seq (.seq (.reg false [⟨none, .mov (.r 4)⟩,
    ⟨none, .fa 0 (.r 1)⟩,
    ⟨none, .ld false 1 (.l 0)⟩,
    ⟨none, .cvi .i64 (.l 0)⟩,
    ⟨none, .bin .lss (.l 3) (.l 0)⟩] [(5, 0)] []) (
  .cond (.r 5) (
  .skip) (
  .exit 0))) (
  .seq (.block 1 (
  .seq (.seq (.reg false [⟨none, .mov (.r 4)⟩,
    ⟨none, .bin .gtr (.l 0) (.v (.c (.d (.int .i64 0))))⟩] [(6, 0)] []) (
  .cond (.r 6) (
  .reg false [⟨none, .mov (.r 3)⟩,
    ⟨none, .bin .add (.l 0) (.v (.c (.d (.str [46]))))⟩,
    ⟨none, .mov (.l 0)⟩] [(3, 0)] []) (
  .skip))) (
  .reg false [⟨none, .mov (.r 3)⟩,
    ⟨none, .mov (.r 4)⟩,
    ⟨none, .fa 1 (.r 1)⟩,
    ⟨none, .ixp 16 1 (.l 0) (.l 1)⟩,
    ⟨none, .ld false 1 (.l 0)⟩,
    ⟨none, .vc 87 [(.l 0)]⟩,
    ⟨none, .bin .add (.l 5) (.l 0)⟩,
    ⟨none, .mov (.l 0)⟩] [(3, 0)] []))) (
  .reg false [⟨none, .mov (.r 4)⟩,
    ⟨none, .bin .add (.l 0) (.v (.c (.d (.int .i64 1))))⟩,
    ⟨none, .mov (.l 0)⟩] [(4, 0)] [])))))) (
  .seq (.reg false [⟨none, .mov (.r 3)⟩,
    ⟨none, .mov (.l 0)⟩] [(2, 0)] []) (
  .ret))))⟩

/-- (*strings.Builder).WriteString -/
def fn59 : Fn := ⟨2, 4, [0, 1, 4, 5], [.r 2, .r 3],
  .seq (.freshb 0 1) (.seq (.reg false [⟨none, .mov (.v (.c (.d (.int .i64 0))))⟩,
    ⟨none, .mov (.v (.c (.d (.nili))))⟩] [(2, 1), (3, 0)] []) (
  .seq (.reg false [⟨none, .mov (.r 0)⟩,
    ⟨none, .hc (.v (.c (.d (.fn 88 [] [])))) [(.l 0)]⟩] [] []) (
  .seq (.reg false [⟨none, .mov (.r 0)⟩,
    ⟨none, .mov (.r 0)⟩,
    ⟨none, .nlc (.l 0)⟩,
    ⟨none, .fa 1 (.l 0)⟩,
    ⟨none, .ld false 1 (.l 0)⟩,
    ⟨none, .mov (.r 1)⟩,
    ⟨none, .apb (.l 1) (.l 0)⟩,
    ⟨none, .nlc (.l 6)⟩,
    ⟨none, .fa 1 (.l 0)⟩,
    ⟨none, .st 1 (.l 0) (.l 2)⟩] [] []) (
  .seq (.reg false [⟨none, .mov (.r 1)⟩,
    ⟨none, .lns (.l 0)⟩,
    ⟨none, .mov (.l 0)⟩,
    ⟨none, .mov (.v (.c (.d (.nili))))⟩] [(2, 1), (3, 0)] []) (
  .ret)))))⟩

/-- (*strings.Builder).WriteByte -/
def fn60 : Fn := ⟨2, 3, [0, 1, 4], [.r 2],
  .seq (.freshb 0 1) (.seq (.reg false [⟨none, .mov (.v (.c (.d (.nili))))⟩] [(2, 0)] []) (
  .seq (.reg false [⟨none, .mov (.r 0)⟩,
    ⟨none, .hc (.v (.c (.d (.fn 88 [] [])))) [(.l 0)]⟩] [] []) (
  .seq (.reg false [⟨none, .mov (.r 0)⟩,
    ⟨none, .mov (.r 0)⟩,
    ⟨none, .nlc (.l 0)⟩,
    ⟨none, .fa 1 (.l 0)⟩,
    ⟨none, .ld false 1 (.l 0)⟩,
    ⟨none, .mov (.r 1)⟩,
    ⟨none, .bsl 1 1 [.int .u8 0] [(0, 1, (.l 0))]⟩,
    ⟨none, .apb (.l 2) (.l 0)⟩,
    ⟨none, .nlc (.l 7)⟩,
    ⟨none, .fa 1 (.l 0)⟩,
    ⟨none, .st 1 (.l 0) (.l 2)⟩] [] []) (
  .seq (.reg false [⟨none, .mov (.v (.c (.d (.nili))))⟩] [(2, 0)] []) (
  .ret)))))⟩

/-- vidimus/oids.Text -/
def fn61 : Fn := ⟨1, 11, [0, 1, 2, 3, 4, 5, 8, 12, 13, 14, 15], [.r 2],
  .seq (.reg false [⟨none, .box (.r 0)⟩,
    ⟨none, .mov (.v (.c (.d (.str []))))⟩] [(1, 1), (2, 0)] []) (
  .seq (.seq (.reg false [⟨none, .ld true 17 (.r 1)⟩,
    ⟨none, .vc 53 [(.l 0)]⟩,
    ⟨none, .bin .neq (.l 0) (.v (.c (.d (.int .i64 0))))⟩] [(6, 0)] []) (
  .cond (.r 6) (
  .seq (.reg false [⟨none, .mov (.v (.c (.d (.str [63]))))⟩] [(2, 0)] []) (
  .ret)) (
  .skip))) (
  .seq (.reg false [⟨none, .fa 0 (.r 1)⟩,
    ⟨none, .ld false 1 (.l 0)⟩,
    ⟨none, .mks 1 16 [.str []] (.l 0) (.l 0)⟩,
    ⟨none, .mov (.l 0)⟩] [(3, 0)] []) (
  .seq (.seq (.reg false [⟨none, .hc (.v (.c (.d (.fn 86 [] [])))) [(.r 1)]⟩,
    ⟨none, .len (.l 0)⟩,
    ⟨none, .mov (.v (.c (.d (.int .i64 0))))⟩] [(7, 2), (8, 1), (9, 0)] []) (
  .block 0 (
  .loop (some [3, 7, 8, 9]) (
  .seq (.reg false [⟨none, .bin .lss (.r 9) (.r 8)⟩] [(10, 0)] []) (
  .seq (.cond (.r 10) (
  .skip) (
  .exit 0)) (
  .seq (.block 1 (
  .seq (.reg false [⟨none, .mov (.r 9)⟩,
    ⟨none, .ixa 1 (.r 7) (.r 9)⟩,
    ⟨none, .ld false 1 (.l 0)⟩,
    ⟨none, .mov (.l 2)⟩,
    ⟨none, .mov (.l 1)⟩] [(4, 1), (5, 0)] []) (
  .reg false [⟨none, .mov (.r 3)⟩,
    ⟨none, .mov (.r 4)⟩,
    ⟨none, .mov (.r 5)⟩,
    ⟨none, .cvi .u64 (.l 0)⟩,
    ⟨none, .vc 89 [(.l 0), (.v (.c (.d (.int .i64 10))))]⟩,
    ⟨none, .ixa 1 (.l 4) (.l 3)⟩,
    ⟨none, .st 1 (.l 0) (.l 1)⟩] [] []))) (
  .reg false [⟨none, .bin .add (.r 9) (.v (.c (.d (.int .i64 1))))⟩,
    ⟨none, .mov (.l 0)⟩] [(9, 0)] []))))))) (
  .seq (.reg false [⟨none, .mov (.r 3)⟩,
    ⟨none, .pc 90 [(.l 0), (.v (.c (.d (.str [46]))))]⟩,
    ⟨none, .mov (.l 0)⟩] [(2, 0)] []) (
  .ret)))))⟩

/-- (*vidimus/anchors.Anchor).flags -/
def fn62 : Fn := ⟨2, 3, [0, 1, 4], [.r 2],
  .seq (.reg false [⟨none, .mov (.v (.c (.d (.nilp))))⟩] [(2, 0)] []) (
  .seq (.reg true [⟨none, .mov (.r 0)⟩,
    ⟨none, .nlc (.l 0)⟩,
    ⟨none, .fa 2 (.l 0)⟩,
    ⟨none, .mov (.r 0)⟩,
    ⟨none, .nlc (.l 0)⟩,
    ⟨none, .fa 3 (.l 0)⟩,
    ⟨none, .mov (.r 0)⟩,
    ⟨none, .nlc (.l 0)⟩,
    ⟨none, .fa 4 (.l 0)⟩,
    ⟨none, .bld [.nilp, .nilp, .nilp] [(0, 1, (.l 6)), (1, 1, (.l 3)), (2, 1, (.l 0))]⟩,
    ⟨none, .mov (.r 1)⟩,
    ⟨none, .ixg false 3 1 (.l 1) (.l 0)⟩,
    ⟨none, .mov (.l 0)⟩] [(2, 0)] []) (
  .ret))⟩

/-- (*strings.Builder).Len -/
def fn63 : Fn := ⟨1, 2, [0, 2], [.r 1],
  .seq (.reg false [⟨none, .mov (.v (.c (.d (.int .i64 0))))⟩] [(1, 0)] []) (
  .seq (.reg false [⟨none, .mov (.r 0)⟩,
    ⟨none, .nlc (.l 0)⟩,
    ⟨none, .fa 1 (.l 0)⟩,
    ⟨none, .ld false 1 (.l 0)⟩,
    ⟨none, .len (.l 0)⟩,
    ⟨none, .mov (.l 0)⟩] [(1, 0)] []) (
  .ret))⟩

/-- vidimus/anchors.read -/
def fn66 : Fn := ⟨1, 13, [0, 2, 3, 4, 5, 6, 7, 8, 9, 20, 29, 30, 37], [.cell 1 5 true, .cell 2 1 false],
  .seq (.reg false [⟨none, .new [.str [], .nils, .bool false, .bool false, .bool false]⟩,
    ⟨none, .new [.bool false]⟩] [(1, 1), (2, 0)] []) (
  .seq (.reg false [⟨none, .mov (.r 0)⟩,
    ⟨none, .pc 92 [(.l 0), (.v (.c (.d (.str [32]))))]⟩,
    ⟨none, .mov (.l 0)⟩] [(3, 0)] []) (
  .seq (.seq (.reg false [⟨none, .mov (.r 3)⟩,
    ⟨none, .len (.l 0)⟩,
    ⟨none, .bin .lss (.l 0) (.v (.c (.d (.int .i64 3))))⟩,
    ⟨none, .mov (.l 0)⟩,
    ⟨some (0, false), .mov (.r 3)⟩,
    ⟨some (1, false), .ixa 1 (.l 0) (.v (.c (.d (.int .i64 0))))⟩,
    ⟨some (2, false), .ld false 1 (.l 0)⟩,
    ⟨some (3, false), .bin .neq (.l 0) (.v (.c (.d (.str [97, 110, 99, 104, 111, 114]))))⟩,
    ⟨none, .pick (.l 4) (.v (.c (.d (.bool true)))) (.l 0)⟩] [(9, 0)] []) (
  .cond (.r 9) (
  .seq (.reg false [⟨none, .bld [.str [], .nils, .bool false, .bool false, .bool false] []⟩,
    ⟨none, .st 5 (.r 1) (.l 0)⟩,
    ⟨none, .st 1 (.r 2) (.v (.c (.d (.bool false))))⟩] [] []) (
  .ret)) (
  .skip))) (
  .seq (.reg false [⟨none, .mov (.r 3)⟩,
    ⟨none, .ixa 1 (.l 0) (.v (.c (.d (.int .i64 1))))⟩,
    ⟨none, .ld false 1 (.l 0)⟩,
    ⟨none, .bld [.str [], .nils, .bool false, .bool false, .bool false] [(0, 1, (.l 0))]⟩,
    ⟨none, .pre⟩,
    ⟨none, .ini 5 (.l 1)⟩] [(4, 0)] []) (
  .seq (.seq (.reg false [⟨none, .mov (.r 3)⟩,
    ⟨none, .ixa 1 (.l 0) (.v (.c (.d (.int .i64 2))))⟩,
    ⟨none, .ld false 1 (.l 0)⟩,
    ⟨none, .hc (.v (.c (.d (.fn 93 [] [])))) [(.l 0), (.v (.c (.d (.str [44]))))]⟩] [(10, 0)] []) (
  .block 0 (
  .seq (.fresh 4 (some 1) 17) (
  .rf (.r 10) [11] (
  .reg false [⟨none, .mov (.r 11)⟩] [(5, 0)] []) (
  .block 1 (
  .seq (.reg false [⟨none, .mov (.r 5)⟩,
    ⟨none, .vc 94 [(.l 0)]⟩,
    ⟨none, .mov (.l 0)⟩,
    ⟨none, .ext (.l 0) 0⟩,
    ⟨none, .ext (.l 1) 1⟩,
    ⟨none, .pre⟩,
    ⟨none, .ini 17 (.l 2)⟩,
    ⟨none, .mov (.l 2)⟩] [(6, 1), (7, 0)] []) (
  .seq (.seq (.reg false [⟨none, .mov (.r 7)⟩,
    ⟨none, .bin .neq (.l 0) (.v (.c (.d (.int .i64 0))))⟩] [(12, 0)] []) (
  .cond (.r 12) (
  .seq (.reg false [⟨none, .bld [.str [], .nils, .bool false, .bool false, .bool false] []⟩,
    ⟨none, .st 5 (.r 1) (.l 0)⟩,
    ⟨none, .st 1 (.r 2) (.v (.c (.d (.bool false))))⟩] [] []) (
  .ret)) (
  .skip))) (
  .reg false [⟨none, .fa 1 (.r 4)⟩,
    ⟨none, .ld false 1 (.l 0)⟩,
    ⟨none, .ld true 17 (.r 6)⟩,
    ⟨none, .bsl 1 17 [.int .u8 0, .int .u32 0, .int .u32 0, .int .u32 0, .int .u32 0, .int .u32 0, .int .u32 0, .int .u32 0, .int .u32 0, .int .u32 0, .int .u32 0, .int .u32 0, .int .u32 0, .int .u32 0, .int .u32 0, .int .u32 0, .int .u32 0] [(0, 17, (.l 0))]⟩,
    ⟨none, .app 17 (.l 2) (.l 0)⟩,
    ⟨none, .fa 1 (.r 4)⟩,
    ⟨none, .st 1 (.l 0) (.l 1)⟩] [] [])))))))) (
  .seq (.reg false [⟨none, .mov (.r 3)⟩,
    ⟨none, .slc 1 (.l 0) (some (.v (.c (.d (.int .i64 3))))) none none⟩,
    ⟨none, .mkf 62 [(.r 4)] []⟩,
    ⟨none, .hc (.v (.c (.d (.fn 95 [] [])))) [(.l 1), (.l 0)]⟩,
    ⟨none, .mov (.l 0)⟩] [(8, 0)] []) (
  .seq (.reg false [⟨none, .ld true 5 (.r 4)⟩,
    ⟨none, .mov (.r 8)⟩,
    ⟨none, .st 5 (.r 1) (.l 1)⟩,
    ⟨none, .st 1 (.r 2) (.l 1)⟩] [] []) (
  .ret)))))))⟩

/-- vidimus/anchors.exact -/
def fn67 : Fn := ⟨1, 4, [0, 2, 3, 6], [.r 1],
  .seq (.reg false [⟨none, .mov (.v (.c (.d (.nils))))⟩] [(1, 0)] []) (
  .seq (.seq (.reg false [⟨none, .mov (.r 0)⟩,
    ⟨none, .len (.l 0)⟩,
    ⟨none, .bin .eql (.l 0) (.v (.c (.d (.int .i64 0))))⟩] [(3, 0)] []) (
  .cond (.r 3) (
  .seq (.reg false [⟨none, .mov (.v (.c (.d (.nils))))⟩] [(1, 0)] []) (
  .ret)) (
  .skip))) (
  .seq (.reg false [⟨none, .mov (.r 0)⟩,
    ⟨none, .len (.l 0)⟩,
    ⟨none, .mks 17 68 [.int .u8 0, .int .u32 0, .int .u32 0, .int .u32 0, .int .u32 0, .int .u32 0, .int .u32 0, .int .u32 0, .int .u32 0, .int .u32 0, .int .u32 0, .int .u32 0, .int .u32 0, .int .u32 0, .int .u32 0, .int .u32 0, .int .u32 0] (.l 0) (.l 0)⟩,
    ⟨none, .mov (.l 0)⟩] [(2, 0)] []) (
  .seq (.reg false [⟨none, .mov (.r 2)⟩,
    ⟨none, .mov (.r 0)⟩,
    ⟨none, .cpy 17 (.l 1) (.l 0)⟩] [] []) (
  .seq (.reg false [⟨none, .mov (.r 2)⟩,
    ⟨none, .mov (.l 0)⟩] [(1, 0)] []) (
  .ret)))))⟩

/-- slices.Clip[[]vidimus/anchors.Anchor,vidimus/anchors.Anchor] -/
def fn68 : Fn := ⟨1, 2, [0, 2], [.r 1],
  .seq (.reg false [⟨none, .mov (.v (.c (.d (.nils))))⟩] [(1, 0)] []) (
  .seq (.reg false [⟨none, .mov (.r 0)⟩,
    ⟨none, .mov (.r 0)⟩,
    ⟨none, .len (.l 0)⟩,
    ⟨none, .mov (.r 0)⟩,
    ⟨none, .len (.l 0)⟩,
    ⟨none, .slc 5 (.l 4) none (some (.l 2)) (some (.l 0))⟩,
    ⟨none, .mov (.l 0)⟩] [(1, 0)] []) (
  .ret))⟩

/-- vidimus/vidimusref39.Policy -/
def fn69 : Fn := ⟨1, 11, [0, 2, 3, 4, 5, 6, 7, 8, 13, 22, 34], [.cell 1 17 true, .r 2],
  .seq (.reg false [⟨none, .new [.int .u8 0, .int .u32 0, .int .u32 0, .int .u32 0, .int .u32 0, .int .u32 0, .int .u32 0, .int .u32 0, .int .u32 0, .int .u32 0, .int .u32 0, .int .u32 0, .int .u32 0, .int .u32 0, .int .u32 0, .int .u32 0, .int .u32 0]⟩,
    ⟨none, .mov (.v (.c (.d (.bool false))))⟩] [(1, 1), (2, 0)] []) (
  .seq (.reg false [⟨none, .mov (.r 0)⟩,
    ⟨none, .vc 30 [(.l 0), (.v (.c (.d (.int .u8 46))))]⟩,
    ⟨none, .mov (.l 0)⟩] [(3, 0)] []) (
  .seq (.seq (.reg false [⟨none, .mov (.r 3)⟩,
    ⟨none, .len (.l 0)⟩,
    ⟨none, .bin .gtr (.l 0) (.v (.c (.d (.int .i64 16))))⟩] [(8, 0)] []) (
  .cond (.r 8) (
  .seq (.reg false [⟨none, .bld [.int .u8 0, .int .u32 0, .int .u32 0, .int .u32 0, .int .u32 0, .int .u32 0, .int .u32 0, .int .u32 0, .int .u32 0, .int .u32 0, .int .u32 0, .int .u32 0, .int .u32 0, .int .u32 0, .int .u32 0, .int .u32 0, .int .u32 0] []⟩,
    ⟨none, .st 17 (.r 1) (.l 0)⟩,
    ⟨none, .mov (.v (.c (.d (.bool false))))⟩] [(2, 0)] []) (
  .ret)) (
  .skip))) (
  .seq (.reg false [⟨none, .mov (.r 3)⟩,
    ⟨none, .len (.l 0)⟩,
    ⟨none, .cvi .u8 (.l 0)⟩,
    ⟨none, .bld [.int .u8 0, .int .u32 0, .int .u32 0, .int .u32 0, .int .u32 0, .int .u32 0, .int .u32 0, .int .u32 0, .int .u32 0, .int .u32 0, .int .u32 0, .int .u32 0, .int .u32 0, .int .u32 0, .int .u32 0, .int .u32 0, .int .u32 0] [(0, 1, (.l 0))]⟩,
    ⟨none, .pre⟩,
    ⟨none, .ini 17 (.l 1)⟩] [(4, 0)] []) (
  .seq (.seq (.reg false [⟨none, .mov (.v (.c (.d (.int .i64 0))))⟩] [(5, 0)] []) (
  .block 0 (
  .loop (some [1, 3, 4, 5]) (
  .seq (.seq (.reg false [⟨none, .mov (.r 5)⟩,
    ⟨none, .mov (.r 3)⟩,
    ⟨none, .len (.l 0)⟩,
    ⟨none, .bin .lss (.l 2) (.l 0)⟩] [(9, 0)] []) (
  .cond (.r 9) (
  .skip) (
  .exit 0))) (
  .seq (.block 1 (
  .seq (.reg false [⟨none, .mov (.r 3)⟩,
    ⟨none, .mov (.r 5)⟩,
    ⟨none, .ixa 1 (.l 1) (.l 0)⟩,
    ⟨none, .ld false 1 (.l 0)⟩,
    ⟨none, .vc 96 [(.l 0)]⟩,
    ⟨none, .mov (.l 0)⟩,
    ⟨none, .ext (.l 0) 0⟩,
    ⟨none, .ext (.l 1) 1⟩,
    ⟨none, .mov (.l 1)⟩,
    ⟨none, .mov (.l 1)⟩] [(6, 1), (7, 0)] []) (
  .seq (.seq (.reg false [⟨none, .mov (.r 7)⟩,
    ⟨none, .un .not (.l 0)⟩] [(10, 0)] []) (
  .cond (.r 10) (
  .seq (.reg false [⟨none, .bld [.int .u8 0, .int .u32 0, .int .u32 0, .int .u32 0, .int .u32 0, .int .u32 0, .int .u32 0, .int .u32 0, .int .u32 0, .int .u32 0, .int .u32 0, .int .u32 0, .int .u32 0, .int .u32 0, .int .u32 0, .int .u32 0, .int .u32 0] []⟩,
    ⟨none, .st 17 (.r 1) (.l 0)⟩,
    ⟨none, .mov (.v (.c (.d (.bool false))))⟩] [(2, 0)] []) (
  .ret)) (
  .skip))) (
  .reg false [⟨none, .mov (.r 5)⟩,
    ⟨none, .mov (.r 6)⟩,
    ⟨none, .fa 1 (.r 4)⟩,
    ⟨none, .ixp 16 1 (.l 0) (.l 2)⟩,
    ⟨none, .st 1 (.l 0) (.l 2)⟩] [] [])))) (
  .reg false [⟨none, .mov (.r 5)⟩,
    ⟨none, .bin .add (.l 0) (.v (.c (.d (.int .i64 1))))⟩,
    ⟨none, .mov (.l 0)⟩] [(5, 0)] [])))))) (
  .seq (.reg true [⟨none, .ld true 17 (.r 4)⟩,
    ⟨none, .ld true 17 (.r 4)⟩,
    ⟨none, .vc 97 [(.l 0)]⟩,
    ⟨none, .st 17 (.r 1) (.l 2)⟩,
    ⟨none, .mov (.l 1)⟩] [(2, 0)] []) (
  .ret))))))⟩

/-- vidimus/anchors.isName -/
def fn70 : Fn := ⟨1, 9, [0, 2, 3, 4, 5, 7, 8, 9, 46], [.r 1],
  .seq (.reg false [⟨none, .mov (.v (.c (.d (.bool false))))⟩] [(1, 0)] []) (
  .seq (.seq (.reg false [⟨none, .mov (.r 0)⟩,
    ⟨none, .lns (.l 0)⟩,
    ⟨none, .mov (.v (.c (.d (.int .i64 0))))⟩] [(5, 1), (6, 0)] []) (
  .block 0 (
  .loop (some [0, 5, 6]) (
  .seq (.reg false [⟨none, .bin .lss (.r 6) (.r 5)⟩] [(7, 0)] []) (
  .seq (.cond (.r 7) (
  .skip) (
  .exit 0)) (
  .seq (.block 1 (
  .seq (.reg false [⟨none, .mov (.r 6)⟩,
    ⟨none, .mov (.l 0)⟩] [(2, 0)] []) (
  .seq (.reg true [⟨none, .mov (.r 0)⟩,
    ⟨none, .mov (.r 2)⟩,
    ⟨none, .ixs (.l 1) (.l 0)⟩,
    ⟨none, .bin .geq (.l 0) (.v (.c (.d (.int .u8 97))))⟩,
    ⟨none, .mov (.l 0)⟩,
    ⟨some (0, true), .mov (.r 0)⟩,
    ⟨some (1, true), .mov (.r 2)⟩,
    ⟨some (2, true), .ixs (.l 1) (.l 0)⟩,
    ⟨some (3, true), .bin .leq (.l 0) (.v (.c (.d (.int .u8 122))))⟩,
    ⟨none, .pick (.l 4) (.l 0) (.v (.c (.d (.bool false))))⟩,
    ⟨none, .mov (.r 0)⟩,
    ⟨none, .mov (.r 2)⟩,
    ⟨none, .ixs (.l 1) (.l 0)⟩,
    ⟨none, .bin .geq (.l 0) (.v (.c (.d (.int .u8 48))))⟩,
    ⟨none, .mov (.l 0)⟩,
    ⟨some (0, true), .mov (.r 0)⟩,
    ⟨some (1, true), .mov (.r 2)⟩,
    ⟨some (2, true), .ixs (.l 1) (.l 0)⟩,
    ⟨some (3, true), .bin .leq (.l 0) (.v (.c (.d (.int .u8 57))))⟩,
    ⟨none, .pick (.l 4) (.l 0) (.v (.c (.d (.bool false))))⟩,
    ⟨none, .mov (.l 10)⟩,
    ⟨none, .mov (.l 1)⟩] [(3, 1), (4, 0)] []) (
  .seq (.reg false [⟨none, .mov (.r 3)⟩,
    ⟨none, .un .not (.l 0)⟩,
    ⟨none, .mov (.l 0)⟩,
    ⟨some (0, true), .mov (.r 2)⟩,
    ⟨some (1, true), .bin .eql (.l 0) (.v (.c (.d (.int .i64 0))))⟩,
    ⟨some (2, true), .mov (.l 0)⟩,
    ⟨some (0, false), .mov (.r 4)⟩,
    ⟨some (1, false), .un .not (.l 0)⟩,
    ⟨some (2, false), .mov (.l 0)⟩,
    ⟨some (0, true), .mov (.r 0)⟩,
    ⟨some (1, true), .mov (.r 2)⟩,
    ⟨some (2, true), .ixs (.l 1) (.l 0)⟩,
    ⟨some (3, true), .bin .neq (.l 0) (.v (.c (.d (.int .u8 45))))⟩,
    ⟨some (7, false), .pick (.l 4) (.l 0) (.v (.c (.d (.bool false))))⟩,
    ⟨some (11, true), .pick (.l 8) (.v (.c (.d (.bool true)))) (.l 0)⟩,
    ⟨none, .pick (.l 12) (.l 0) (.v (.c (.d (.bool false))))⟩] [(8, 0)] []) (
  .cond (.r 8) (
  .seq (.reg false [⟨none, .mov (.v (.c (.d (.bool false))))⟩] [(1, 0)] []) (
  .ret)) (
  .skip)))))) (
  .reg false [⟨none, .bin .add (.r 6) (.v (.c (.d (.int .i64 1))))⟩,
    ⟨none, .mov (.l 0)⟩] [(6, 0)] []))))))) (
  .seq (.reg false [⟨none, .mov (.r 0)⟩,
    ⟨none, .lns (.l 0)⟩,
    ⟨none, .bin .gtr (.l 0) (.v (.c (.d (.int .i64 0))))⟩,
    ⟨none, .mov (.l 0)⟩,
    ⟨some (0, true), .mov (.r 0)⟩,
    ⟨some (1, true), .lns (.l 0)⟩,
    ⟨some (2, true), .bin .leq (.l 0) (.v (.c (.d (.int .i64 32))))⟩,
    ⟨none, .pick (.l 3) (.l 0) (.v (.c (.d (.bool false))))⟩,
    ⟨none, .mov (.l 0)⟩] [(1, 0)] []) (
  .ret)))⟩

/-- vidimus/vidimusref34.With -/
def fn78 : Fn := ⟨2, 10, [0, 1, 3, 4, 5, 6, 7, 14, 27, 40], [.r 3],
  .seq (.reg false [⟨none, .box (.r 1)⟩,
    ⟨none, .mov (.v (.c (.d (.nils))))⟩] [(2, 1), (3, 0)] []) (
  .seq (.reg false [⟨none, .mov (.v (.c (.d (.nils))))⟩] [(4, 0)] []) (
  .seq (.reg false [⟨none, .mov (.r 0)⟩,
    ⟨none, .ld true 17 (.r 2)⟩,
    ⟨none, .vc 55 [(.l 1), (.l 0)]⟩,
    ⟨none, .mov (.l 0)⟩] [(5, 0)] []) (
  .seq (.seq (.reg false [⟨none, .mov (.v (.c (.d (.int .i64 0))))⟩] [(6, 0)] []) (
  .block 0 (
  .seq (.fresh 4 none 17) (
  .loop (some [0, 2, 4, 5, 6]) (
  .seq (.seq (.reg false [⟨none, .mov (.r 6)⟩,
    ⟨none, .mov (.r 0)⟩,
    ⟨none, .len (.l 0)⟩,
    ⟨none, .bin .lss (.l 2) (.l 0)⟩] [(7, 0)] []) (
  .cond (.r 7) (
  .skip) (
  .exit 0))) (
  .seq (.block 1 (
  .seq (.seq (.reg true [⟨none, .mov (.r 5)⟩,
    ⟨none, .un .not (.l 0)⟩,
    ⟨none, .mov (.l 0)⟩,
    ⟨some (0, true), .ld true 17 (.r 2)⟩,
    ⟨some (1, true), .mov (.r 0)⟩,
    ⟨some (2, true), .mov (.r 6)⟩,
    ⟨some (3, true), .ixa 17 (.l 1) (.l 0)⟩,
    ⟨some (4, true), .ld true 17 (.l 0)⟩,
    ⟨some (5, true), .vc 103 [(.l 4), (.l 0)]⟩,
    ⟨some (6, true), .bin .lss (.l 0) (.v (.c (.d (.int .i64 0))))⟩,
    ⟨none, .pick (.l 7) (.l 0) (.v (.c (.d (.bool false))))⟩] [(8, 0)] []) (
  .cond (.r 8) (
  .seq (.reg false [⟨none, .mov (.r 4)⟩,
    ⟨none, .ld true 17 (.r 2)⟩,
    ⟨none, .bsl 1 17 [.int .u8 0, .int .u32 0, .int .u32 0, .int .u32 0, .int .u32 0, .int .u32 0, .int .u32 0, .int .u32 0, .int .u32 0, .int .u32 0, .int .u32 0, .int .u32 0, .int .u32 0, .int .u32 0, .int .u32 0, .int .u32 0, .int .u32 0] [(0, 17, (.l 0))]⟩,
    ⟨none, .app 17 (.l 2) (.l 0)⟩,
    ⟨none, .mov (.l 0)⟩] [(4, 0)] []) (
  .reg false [⟨none, .mov (.v (.c (.d (.bool true))))⟩] [(5, 0)] [])) (
  .skip))) (
  .reg false [⟨none, .mov (.r 4)⟩,
    ⟨none, .mov (.r 0)⟩,
    ⟨none, .mov (.r 6)⟩,
    ⟨none, .ixa 17 (.l 1) (.l 0)⟩,
    ⟨none, .ld true 17 (.l 0)⟩,
    ⟨none, .bsl 1 17 [.int .u8 0, .int .u32 0, .int .u32 0, .int .u32 0, .int .u32 0, .int .u32 0, .int .u32 0, .int .u32 0, .int .u32 0, .int .u32 0, .int .u32 0, .int .u32 0, .int .u32 0, .int .u32 0, .int .u32 0, .int .u32 0, .int .u32 0] [(0, 17, (.l 0))]⟩,
    ⟨none, .app 17 (.l 5) (.l 0)⟩,
    ⟨none, .mov (.l 0)⟩] [(4, 0)] []))) (
  .reg false [⟨none, .mov (.r 6)⟩,
    ⟨none, .bin .add (.l 0) (.v (.c (.d (.int .i64 1))))⟩,
    ⟨none, .mov (.l 0)⟩] [(6, 0)] []))))))) (
  .seq (.seq (.reg false [⟨none, .mov (.r 5)⟩,
    ⟨none, .un .not (.l 0)⟩] [(9, 0)] []) (
  .cond (.r 9) (
  .reg false [⟨none, .mov (.r 4)⟩,
    ⟨none, .ld true 17 (.r 2)⟩,
    ⟨none, .bsl 1 17 [.int .u8 0, .int .u32 0, .int .u32 0, .int .u32 0, .int .u32 0, .int .u32 0, .int .u32 0, .int .u32 0, .int .u32 0, .int .u32 0, .int .u32 0, .int .u32 0, .int .u32 0, .int .u32 0, .int .u32 0, .int .u32 0, .int .u32 0] [(0, 17, (.l 0))]⟩,
    ⟨none, .app 17 (.l 2) (.l 0)⟩,
    ⟨none, .mov (.l 0)⟩] [(4, 0)] []) (
  .skip))) (
  .seq (.reg false [⟨none, .mov (.r 4)⟩,
    ⟨none, .mov (.l 0)⟩] [(3, 0)] []) (
  .ret))))))⟩

/-- vidimus/oids.Any -/
def fn83 : Fn := ⟨0, 1, [0], [.cell 0 17 true],
  .seq (.reg false [⟨none, .new [.int .u8 0, .int .u32 0, .int .u32 0, .int .u32 0, .int .u32 0, .int .u32 0, .int .u32 0, .int .u32 0, .int .u32 0, .int .u32 0, .int .u32 0, .int .u32 0, .int .u32 0, .int .u32 0, .int .u32 0, .int .u32 0, .int .u32 0]⟩] [(0, 0)] []) (
  .seq (.reg false [⟨none, .bsl 5 1 [.int .u32 0] [(0, 1, (.v (.c (.d (.int .u32 2))))), (1, 1, (.v (.c (.d (.int .u32 5))))), (2, 1, (.v (.c (.d (.int .u32 29))))), (3, 1, (.v (.c (.d (.int .u32 32))))), (4, 1, (.v (.c (.d (.int .u32 0)))))]⟩,
    ⟨none, .vc 107 [(.l 0)]⟩,
    ⟨none, .st 17 (.r 0) (.l 0)⟩] [] []) (
  .ret))⟩

/-- slices.Contains[[]vidimus/api.OID,vidimus/api.OID] -/
def fn84 : Fn := ⟨2, 4, [0, 1, 3, 4], [.r 3],
  .seq (.reg false [⟨none, .box (.r 1)⟩,
    ⟨none, .mov (.v (.c (.d (.bool false))))⟩] [(2, 1), (3, 0)] []) (
  .seq (.reg false [⟨none, .mov (.r 0)⟩,
    ⟨none, .ld true 17 (.r 2)⟩,
    ⟨none, .vc 108 [(.l 1), (.l 0)]⟩,
    ⟨none, .bin .geq (.l 0) (.v (.c (.d (.int .i64 0))))⟩,
    ⟨none, .mov (.l 0)⟩] [(3, 0)] []) (
  .ret))⟩

/-- slices.Compare[[]uint32,uint32] -/
def fn85 : Fn := ⟨2, 14, [0, 1, 4, 5, 6, 7, 8, 9, 10, 11, 12, 19, 28, 35], [.r 2],
  .seq (.reg false [⟨none, .mov (.v (.c (.d (.int .i64 0))))⟩] [(2, 0)] []) (
  .seq (.seq (.reg false [⟨none, .mov (.r 0)⟩,
    ⟨none, .len (.l 0)⟩,
    ⟨none, .mov (.v (.c (.d (.int .i64 0))))⟩] [(7, 2), (8, 1), (9, 0)] []) (
  .block 0 (
  .loop (some [0, 1, 7, 8, 9]) (
  .seq (.reg false [⟨none, .bin .lss (.r 9) (.r 8)⟩] [(10, 0)] []) (
  .seq (.cond (.r 10) (
  .skip) (
  .exit 0)) (
  .seq (.block 1 (
  .seq (.reg false [⟨none, .mov (.r 9)⟩,
    ⟨none, .ixa 1 (.r 7) (.r 9)⟩,
    ⟨none, .ld false 1 (.l 0)⟩,
    ⟨none, .mov (.l 2)⟩,
    ⟨none, .mov (.l 1)⟩] [(3, 1), (4, 0)] []) (
  .seq (.seq (.reg false [⟨none, .mov (.r 3)⟩,
    ⟨none, .mov (.r 1)⟩,
    ⟨none, .len (.l 0)⟩,
    ⟨none, .bin .geq (.l 2) (.l 0)⟩] [(11, 0)] []) (
  .cond (.r 11) (
  .seq (.reg false [⟨none, .mov (.v (.c (.d (.int .i64 1))))⟩] [(2, 0)] []) (
  .ret)) (
  .skip))) (
  .seq (.reg false [⟨none, .mov (.r 1)⟩,
    ⟨none, .mov (.r 3)⟩,
    ⟨none, .ixa 1 (.l 1) (.l 0)⟩,
    ⟨none, .ld false 1 (.l 0)⟩,
    ⟨none, .mov (.l 0)⟩] [(5, 0)] []) (
  .seq (.reg false [⟨none, .mov (.r 4)⟩,
    ⟨none, .mov (.r 5)⟩,
    ⟨none, .vc 109 [(.l 1), (.l 0)]⟩,
    ⟨none, .mov (.l 0)⟩] [(6, 0)] []) (
  .seq (.reg false [⟨none, .mov (.r 6)⟩,
    ⟨none, .bin .neq (.l 0) (.v (.c (.d (.int .i64 0))))⟩] [(12, 0)] []) (
  .cond (.r 12) (
  .seq (.reg false [⟨none, .mov (.r 6)⟩,
    ⟨none, .mov (.l 0)⟩] [(2, 0)] []) (
  .ret)) (
  .skip)))))))) (
  .reg false [⟨none, .bin .add (.r 9) (.v (.c (.d (.int .i64 1))))⟩,
    ⟨none, .mov (.l 0)⟩] [(9, 0)] []))))))) (
  .seq (.seq (.reg false [⟨none, .mov (.r 0)⟩,
    ⟨none, .len (.l 0)⟩,
    ⟨none, .mov (.r 1)⟩,
    ⟨none, .len (.l 0)⟩,
    ⟨none, .bin .lss (.l 2) (.l 0)⟩] [(13, 0)] []) (
  .cond (.r 13) (
  .seq (.reg false [⟨none, .mov (.v (.c (.d (.int .i64 (-1)))))⟩] [(2, 0)] []) (
  .ret)) (
  .skip))) (
  .seq (.reg false [⟨none, .mov (.v (.c (.d (.int .i64 0))))⟩] [(2, 0)] []) (
  .ret))))⟩

/-- vidimus/oids.arcs -/
def fn86 : Fn := ⟨1, 2, [0, 2], [.r 1],
  .seq (.reg false [⟨none, .mov (.v (.c (.d (.nils))))⟩] [(1, 0)] []) (
  .seq (.reg true [⟨none, .mov (.r 0)⟩,
    ⟨none, .nlc (.l 0)⟩,
    ⟨none, .fa 1 (.l 0)⟩,
    ⟨none, .mov (.r 0)⟩,
    ⟨none, .nlc (.l 0)⟩,
    ⟨none, .fa 0 (.l 0)⟩,
    ⟨none, .ld false 1 (.l 0)⟩,
    ⟨none, .cvi .i64 (.l 0)⟩,
    ⟨none, .mm false (.l 0) (.v (.c (.d (.int .i64 16))))⟩,
    ⟨none, .slp 16 1 (.l 6) none (some (.l 0)) none⟩,
    ⟨none, .mov (.l 0)⟩] [(1, 0)] []) (
  .ret))⟩

/-- vidimus/vidimusref39.decimal -/
def fn87 : Fn := ⟨1, 5, [0, 2, 3, 4, 5], [.r 1],
  .seq (.reg false [⟨none, .mov (.v (.c (.d (.str []))))⟩] [(1, 0)] []) (
  .seq (.reg false [⟨none, .mov (.v (.c (.d (.str []))))⟩] [(2, 0)] []) (
  .seq (.seq (.reg false [⟨none, .mov (.v (.c (.d (.bool true))))⟩] [(3, 0)] []) (
  .block 0 (
  .loop (some [0, 2, 3]) (
  .seq (.seq (.reg false [⟨none, .mov (.r 3)⟩] [(4, 0)] []) (
  .cond (.r 4) (
  .skip) (
  .exit 0))) (
  .seq (.block 1 (
  .seq (.reg false [⟨none, .mov (.r 0)⟩,
    ⟨none, .bin .rem (.l 0) (.v (.c (.d (.int .u32 10))))⟩,
    ⟨none, .bin .add (.v (.c (.d (.int .u32 48)))) (.l 0)⟩,
    ⟨none, .cvi .u8 (.l 0)⟩,
    ⟨none, .bsl 1 1 [.int .u8 0] [(0, 1, (.l 0))]⟩,
    ⟨none, .b2s (.l 0)⟩,
    ⟨none, .mov (.r 2)⟩,
    ⟨none, .bin .add (.l 1) (.l 0)⟩,
    ⟨none, .mov (.l 0)⟩] [(2, 0)] []) (
  .reg false [⟨none, .mov (.r 0)⟩,
    ⟨none, .bin .quo (.l 0) (.v (.c (.d (.int .u32 10))))⟩,
    ⟨none, .mov (.l 0)⟩] [(0, 0)] []))) (
  .reg false [⟨none, .mov (.r 0)⟩,
    ⟨none, .bin .gtr (.l 0) (.v (.c (.d (.int .u32 0))))⟩,
    ⟨none, .mov (.l 0)⟩] [(3, 0)] [])))))) (
  .seq (.reg false [⟨none, .mov (.r 2)⟩,
    ⟨none, .mov (.l 0)⟩] [(1, 0)] []) (
  .ret))))⟩

/-- strconv.FormatUint -/
def fn89 : Fn := ⟨2, 3, [0, 1, 4], [.r 2],
  .seq (.reg false [⟨none, .mov (.v (.c (.d (.str []))))⟩] [(2, 0)] []) (
  .seq (.reg false [⟨none, .mov (.r 0)⟩,
    ⟨none, .mov (.r 1)⟩,
    ⟨none, .vc 111 [(.l 1), (.l 0)]⟩,
    ⟨none, .mov (.l 0)⟩] [(2, 0)] []) (
  .ret))⟩

/-- strings.SplitSeq -/
def fn93 : Fn := ⟨2, 3, [0, 1, 4], [.r 2],
  .seq (.reg false [⟨none, .mov (.v (.c (.d (.nilf))))⟩] [(2, 0)] []) (
  .seq (.reg false [⟨none, .mov (.r 0)⟩,
    ⟨none, .mov (.r 1)⟩,
    ⟨none, .hc (.v (.c (.d (.fn 115 [] [])))) [(.l 1), (.l 0), (.v (.c (.d (.int .i64 0))))]⟩,
    ⟨none, .mov (.l 0)⟩] [(2, 0)] []) (
  .ret))⟩

/-- vidimus/oids.Parse -/
def fn94 : Fn := ⟨1, 20, [0, 2, 3, 4, 5, 6, 7, 8, 9, 10, 11, 21, 27, 28, 29, 30, 36, 49, 56, 61], [.cell 1 17 true, .r 2],
  .seq (.reg false [⟨none, .new [.int .u8 0, .int .u32 0, .int .u32 0, .int .u32 0, .int .u32 0, .int .u32 0, .int .u32 0, .int .u32 0, .int .u32 0, .int .u32 0, .int .u32 0, .int .u32 0, .int .u32 0, .int .u32 0, .int .u32 0, .int .u32 0, .int .u32 0]⟩,
    ⟨none, .mov (.v (.c (.d (.int .i64 0))))⟩] [(1, 1), (2, 0)] []) (
  .seq (.reg false [⟨none, .mov (.r 0)⟩,
    ⟨none, .pc 92 [(.l 0), (.v (.c (.d (.str [46]))))]⟩,
    ⟨none, .mov (.l 0)⟩] [(3, 0)] []) (
  .seq (.seq (.reg false [⟨none, .mov (.r 3)⟩,
    ⟨none, .vc 116 [(.l 0), (.v (.c (.d (.fn 117 [] []))))]⟩,
    ⟨none, .un .not (.l 0)⟩,
    ⟨none, .mov (.l 0)⟩,
    ⟨some (0, true), .mov (.r 3)⟩,
    ⟨some (1, true), .len (.l 0)⟩,
    ⟨some (2, true), .bin .gtr (.l 0) (.v (.c (.d (.int .i64 16))))⟩,
    ⟨none, .pick (.l 3) (.l 0) (.v (.c (.d (.bool false))))⟩] [(11, 0)] []) (
  .cond (.r 11) (
  .seq (.reg false [⟨none, .bld [.int .u8 0, .int .u32 0, .int .u32 0, .int .u32 0, .int .u32 0, .int .u32 0, .int .u32 0, .int .u32 0, .int .u32 0, .int .u32 0, .int .u32 0, .int .u32 0, .int .u32 0, .int .u32 0, .int .u32 0, .int .u32 0, .int .u32 0] []⟩,
    ⟨none, .st 17 (.r 1) (.l 0)⟩,
    ⟨none, .mov (.v (.c (.d (.int .i64 3))))⟩] [(2, 0)] []) (
  .ret)) (
  .skip))) (
  .seq (.reg false [⟨none, .mov (.r 3)⟩,
    ⟨none, .len (.l 0)⟩,
    ⟨none, .cvi .u8 (.l 0)⟩,
    ⟨none, .bld [.int .u8 0, .int .u32 0, .int .u32 0, .int .u32 0, .int .u32 0, .int .u32 0, .int .u32 0, .int .u32 0, .int .u32 0, .int .u32 0, .int .u32 0, .int .u32 0, .int .u32 0, .int .u32 0, .int .u32 0, .int .u32 0, .int .u32 0] [(0, 1, (.l 0))]⟩,
    ⟨none, .pre⟩,
    ⟨none, .ini 17 (.l 1)⟩] [(4, 0)] []) (
  .seq (.reg false [⟨none, .mov (.v (.c (.d (.bool false))))⟩] [(5, 0)] []) (
  .seq (.seq (.reg false [⟨none, .mov (.r 3)⟩,
    ⟨none, .len (.l 0)⟩,
    ⟨none, .mov (.v (.c (.d (.int .i64 0))))⟩] [(12, 2), (13, 1), (14, 0)] []) (
  .block 0 (
  .loop (some [1, 4, 5, 12, 13, 14]) (
  .seq (.reg false [⟨none, .bin .lss (.r 14) (.r 13)⟩] [(15, 0)] []) (
  .seq (.cond (.r 15) (
  .skip) (
  .exit 0)) (
  .seq (.block 1 (
  .seq (.reg false [⟨none, .mov (.r 14)⟩,
    ⟨none, .ixa 1 (.r 12) (.r 14)⟩,
    ⟨none, .ld false 1 (.l 0)⟩,
    ⟨none, .mov (.l 2)⟩,
    ⟨none, .mov (.l 1)⟩] [(6, 1), (7, 0)] []) (
  .seq (.seq (.reg false [⟨none, .mov (.r 7)⟩,
    ⟨none, .vc 118 [(.l 0)]⟩,
    ⟨none, .un .not (.l 0)⟩] [(16, 0)] []) (
  .cond (.r 16) (
  .seq (.reg false [⟨none, .bld [.int .u8 0, .int .u32 0, .int .u32 0, .int .u32 0, .int .u32 0, .int .u32 0, .int .u32 0, .int .u32 0, .int .u32 0, .int .u32 0, .int .u32 0, .int .u32 0, .int .u32 0, .int .u32 0, .int .u32 0, .int .u32 0, .int .u32 0] []⟩,
    ⟨none, .st 17 (.r 1) (.l 0)⟩,
    ⟨none, .mov (.v (.c (.d (.int .i64 6))))⟩] [(2, 0)] []) (
  .ret)) (
  .skip))) (
  .seq (.reg false [⟨none, .mov (.r 7)⟩,
    ⟨none, .pc 119 [(.l 0), (.v (.c (.d (.int .i64 10)))), (.v (.c (.d (.int .i64 32))))]⟩,
    ⟨none, .mov (.l 0)⟩,
    ⟨none, .ext (.l 0) 0⟩,
    ⟨none, .ext (.l 1) 1⟩,
    ⟨none, .mov (.l 1)⟩,
    ⟨none, .mov (.l 1)⟩] [(8, 1), (9, 0)] []) (
  .seq (.reg false [⟨none, .mov (.r 5)⟩,
    ⟨none, .mov (.l 0)⟩,
    ⟨some (0, false), .mov (.r 9)⟩,
    ⟨some (1, false), .isn true (.l 0)⟩,
    ⟨none, .pick (.l 2) (.v (.c (.d (.bool true)))) (.l 0)⟩,
    ⟨none, .mov (.l 0)⟩] [(5, 0)] []) (
  .seq (.reg false [⟨none, .mov (.r 6)⟩,
    ⟨none, .bin .lss (.l 0) (.v (.c (.d (.int .i64 16))))⟩] [(17, 0)] []) (
  .cond (.r 17) (
  .reg false [⟨none, .mov (.r 6)⟩,
    ⟨none, .mov (.r 8)⟩,
    ⟨none, .cvi .u32 (.l 0)⟩,
    ⟨none, .fa 1 (.r 4)⟩,
    ⟨none, .ixp 16 1 (.l 0) (.l 3)⟩,
    ⟨none, .st 1 (.l 0) (.l 2)⟩] [] []) (
  .skip)))))))) (
  .reg false [⟨none, .bin .add (.r 14) (.v (.c (.d (.int .i64 1))))⟩,
    ⟨none, .mov (.l 0)⟩] [(14, 0)] []))))))) (
  .seq (.seq (.reg false [⟨none, .mov (.r 5)⟩] [(18, 0)] []) (
  .cond (.r 18) (
  .seq (.reg false [⟨none, .bld [.int .u8 0, .int .u32 0, .int .u32 0, .int .u32 0, .int .u32 0, .int .u32 0, .int .u32 0, .int .u32 0, .int .u32 0, .int .u32 0, .int .u32 0, .int .u32 0, .int .u32 0, .int .u32 0, .int .u32 0, .int .u32 0, .int .u32 0] []⟩,
    ⟨none, .st 17 (.r 1) (.l 0)⟩,
    ⟨none, .mov (.v (.c (.d (.int .i64 3))))⟩] [(2, 0)] []) (
  .ret)) (
  .skip))) (
  .seq (.seq (.reg false [⟨none, .ld true 17 (.r 4)⟩,
    ⟨none, .vc 53 [(.l 0)]⟩,
    ⟨none, .mov (.l 0)⟩] [(10, 0)] []) (
  .seq (.reg false [⟨none, .mov (.r 10)⟩,
    ⟨none, .bin .neq (.l 0) (.v (.c (.d (.int .i64 0))))⟩] [(19, 0)] []) (
  .cond (.r 19) (
  .seq (.reg false [⟨none, .bld [.int .u8 0, .int .u32 0, .int .u32 0, .int .u32 0, .int .u32 0, .int .u32 0, .int .u32 0, .int .u32 0, .int .u32 0, .int .u32 0, .int .u32 0, .int .u32 0, .int .u32 0, .int .u32 0, .int .u32 0, .int .u32 0, .int .u32 0] []⟩,
    ⟨none, .mov (.r 10)⟩,
    ⟨none, .st 17 (.r 1) (.l 1)⟩,
    ⟨none, .mov (.l 1)⟩] [(2, 0)] []) (
  .ret)) (
  .skip)))) (
  .seq (.reg false [⟨none, .ld true 17 (.r 4)⟩,
    ⟨none, .st 17 (.r 1) (.l 0)⟩,
    ⟨none, .mov (.v (.c (.d (.int .i64 0))))⟩] [(2, 0)] []) (
  .ret)))))))))⟩

/-- vidimus/anchors.options -/
def fn95 : Fn := ⟨2, 9, [0, 1, 4, 5, 6, 7, 8, 9, 21], [.r 2],
  .seq (.reg false [⟨none, .mov (.v (.c (.d (.bool false))))⟩] [(2, 0)] []) (
  .seq (.seq (.reg false [⟨none, .ld true 3 (.g 0)⟩,
    ⟨none, .mov (.v (.c (.d (.int .i64 0))))⟩] [(5, 1), (6, 0)] []) (
  .block 0 (
  .loop (some [0, 1, 5, 6]) (
  .seq (.reg false [⟨none, .bin .lss (.r 6) (.v (.c (.d (.int .i64 3))))⟩] [(7, 0)] []) (
  .seq (.cond (.r 7) (
  .skip) (
  .exit 0)) (
  .seq (.block 1 (
  .seq (.reg false [⟨none, .mov (.r 6)⟩,
    ⟨none, .ixg false 3 1 (.r 5) (.r 6)⟩,
    ⟨none, .mov (.l 1)⟩,
    ⟨none, .mov (.l 1)⟩] [(3, 1), (4, 0)] []) (
  .seq (.reg false [⟨none, .mov (.r 0)⟩,
    ⟨none, .len (.l 0)⟩,
    ⟨none, .bin .gtr (.l 0) (.v (.c (.d (.int .i64 0))))⟩,
    ⟨none, .mov (.l 0)⟩,
    ⟨some (0, true), .mov (.r 0)⟩,
    ⟨some (1, true), .ixa 1 (.l 0) (.v (.c (.d (.int .i64 0))))⟩,
    ⟨some (2, true), .ld false 1 (.l 0)⟩,
    ⟨some (3, true), .mov (.r 4)⟩,
    ⟨some (4, true), .bin .eql (.l 1) (.l 0)⟩,
    ⟨none, .pick (.l 5) (.l 0) (.v (.c (.d (.bool false))))⟩] [(8, 0)] []) (
  .cond (.r 8) (
  .seq (.reg false [⟨none, .mov (.r 1)⟩,
    ⟨none, .mov (.r 3)⟩,
    ⟨none, .hc (.l 1) [(.l 0)]⟩,
    ⟨none, .nlc (.l 0)⟩,
    ⟨none, .st 1 (.l 0) (.v (.c (.d (.bool true))))⟩] [] []) (
  .reg false [⟨none, .mov (.r 0)⟩,
    ⟨none, .slc 1 (.l 0) (some (.v (.c (.d (.int .i64 1))))) none none⟩,
    ⟨none, .mov (.l 0)⟩] [(0, 0)] [])) (
  .skip))))) (
  .reg false [⟨none, .bin .add (.r 6) (.v (.c (.d (.int .i64 1))))⟩,
    ⟨none, .mov (.l 0)⟩] [(6, 0)] []))))))) (
  .seq (.reg false [⟨none, .mov (.r 0)⟩,
    ⟨none, .len (.l 0)⟩,
    ⟨none, .bin .eql (.l 0) (.v (.c (.d (.int .i64 0))))⟩,
    ⟨none, .mov (.l 0)⟩] [(2, 0)] []) (
  .ret)))⟩

/-- vidimus/vidimusref39.arc -/
def fn96 : Fn := ⟨1, 8, [0, 2, 3, 4, 5, 22, 26, 38], [.r 1, .r 2],
  .seq (.reg false [⟨none, .mov (.v (.c (.d (.int .u32 0))))⟩,
    ⟨none, .mov (.v (.c (.d (.bool false))))⟩] [(1, 1), (2, 0)] []) (
  .seq (.seq (.reg false [⟨none, .mov (.r 0)⟩,
    ⟨none, .bin .eql (.l 0) (.v (.c (.d (.str []))))⟩,
    ⟨none, .mov (.l 0)⟩,
    ⟨some (0, false), .mov (.r 0)⟩,
    ⟨some (1, false), .lns (.l 0)⟩,
    ⟨some (2, false), .bin .gtr (.l 0) (.v (.c (.d (.int .i64 10))))⟩,
    ⟨none, .pick (.l 3) (.v (.c (.d (.bool true)))) (.l 0)⟩,
    ⟨none, .mov (.l 0)⟩,
    ⟨some (0, false), .mov (.r 0)⟩,
    ⟨some (1, false), .lns (.l 0)⟩,
    ⟨some (2, false), .bin .gtr (.l 0) (.v (.c (.d (.int .i64 1))))⟩,
    ⟨some (3, false), .mov (.l 0)⟩,
    ⟨some (0, true), .mov (.r 0)⟩,
    ⟨some (1, true), .ixs (.l 0) (.v (.c (.d (.int .i64 0))))⟩,
    ⟨some (2, true), .bin .eql (.l 0) (.v (.c (.d (.int .u8 48))))⟩,
    ⟨some (7, false), .pick (.l 3) (.l 0) (.v (.c (.d (.bool false))))⟩,
    ⟨none, .pick (.l 8) (.v (.c (.d (.bool true)))) (.l 0)⟩] [(5, 0)] []) (
  .cond (.r 5) (
  .seq (.reg false [⟨none, .mov (.v (.c (.d (.int .u32 0))))⟩,
    ⟨none, .mov (.v (.c (.d (.bool false))))⟩] [(1, 1), (2, 0)] []) (
  .ret)) (
  .skip))) (
  .seq (.reg false [⟨none, .mov (.v (.c (.d (.int .u64 0))))⟩] [(3, 0)] []) (
  .seq (.seq (.reg false [⟨none, .mov (.v (.c (.d (.int .i64 0))))⟩] [(4, 0)] []) (
  .block 0 (
  .loop (some [0, 3, 4]) (
  .seq (.seq (.reg false [⟨none, .mov (.r 4)⟩,
    ⟨none, .mov (.r 0)⟩,
    ⟨none, .lns (.l 0)⟩,
    ⟨none, .bin .lss (.l 2) (.l 0)⟩] [(6, 0)] []) (
  .cond (.r 6) (
  .skip) (
  .exit 0))) (
  .seq (.block 1 (
  .seq (.seq (.reg false [⟨none, .mov (.r 0)⟩,
    ⟨none, .mov (.r 4)⟩,
    ⟨none, .ixs (.l 1) (.l 0)⟩,
    ⟨none, .bin .lss (.l 0) (.v (.c (.d (.int .u8 48))))⟩,
    ⟨none, .mov (.l 0)⟩,
    ⟨some (0, false), .mov (.r 0)⟩,
    ⟨some (1, false), .mov (.r 4)⟩,
    ⟨some (2, false), .ixs (.l 1) (.l 0)⟩,
    ⟨some (3, false), .bin .gtr (.l 0) (.v (.c (.d (.int .u8 57))))⟩,
    ⟨none, .pick (.l 4) (.v (.c (.d (.bool true)))) (.l 0)⟩] [(7, 0)] []) (
  .cond (.r 7) (
  .seq (.reg false [⟨none, .mov (.v (.c (.d (.int .u32 0))))⟩,
    ⟨none, .mov (.v (.c (.d (.bool false))))⟩] [(1, 1), (2, 0)] []) (
  .ret)) (
  .skip))) (
  .reg false [⟨none, .mov (.r 3)⟩,
    ⟨none, .bin .mul (.v (.c (.d (.int .u64 10)))) (.l 0)⟩,
    ⟨none, .mov (.r 0)⟩,
    ⟨none, .mov (.r 4)⟩,
    ⟨none, .ixs (.l 1) (.l 0)⟩,
    ⟨none, .bin .sub (.l 0) (.v (.c (.d (.int .u8 48))))⟩,
    ⟨none, .cvi .u64 (.l 0)⟩,
    ⟨none, .bin .add (.l 5) (.l 0)⟩,
    ⟨none, .mov (.l 0)⟩] [(3, 0)] []))) (
  .reg false [⟨none, .mov (.r 4)⟩,
    ⟨none, .bin .add (.l 0) (.v (.c (.d (.int .i64 1))))⟩,
    ⟨none, .mov (.l 0)⟩] [(4, 0)] [])))))) (
  .seq (.reg false [⟨none, .mov (.r 3)⟩,
    ⟨none, .cvi .u32 (.l 0)⟩,
    ⟨none, .mov (.r 3)⟩,
    ⟨none, .bin .lss (.l 0) (.v (.c (.d (.int .u64 4294967296))))⟩,
    ⟨none, .mov (.l 2)⟩,
    ⟨none, .mov (.l 1)⟩] [(1, 1), (2, 0)] []) (
  .ret)))))⟩

/-- vidimus/vidimusref39.Valid -/
def fn97 : Fn := ⟨1, 7, [0, 1, 2, 3, 35, 40, 47], [.r 2],
  .seq (.reg false [⟨none, .box (.r 0)⟩,
    ⟨none, .mov (.v (.c (.d (.bool false))))⟩] [(1, 1), (2, 0)] []) (
  .seq (.seq (.reg false [⟨none, .fa 0 (.r 1)⟩,
    ⟨none, .ld false 1 (.l 0)⟩,
    ⟨none, .bin .lss (.l 0) (.v (.c (.d (.int .u8 2))))⟩,
    ⟨none, .mov (.l 0)⟩,
    ⟨some (0, false), .fa 0 (.r 1)⟩,
    ⟨some (1, false), .ld false 1 (.l 0)⟩,
    ⟨some (2, false), .bin .gtr (.l 0) (.v (.c (.d (.int .u8 16))))⟩,
    ⟨none, .pick (.l 3) (.v (.c (.d (.bool true)))) (.l 0)⟩,
    ⟨none, .mov (.l 0)⟩,
    ⟨some (0, false), .fa 1 (.r 1)⟩,
    ⟨some (1, false), .ixp 16 1 (.l 0) (.v (.c (.d (.int .i64 0))))⟩,
    ⟨some (2, false), .ld false 1 (.l 0)⟩,
    ⟨some (3, false), .bin .gtr (.l 0) (.v (.c (.d (.int .u32 2))))⟩,
    ⟨none, .pick (.l 4) (.v (.c (.d (.bool true)))) (.l 0)⟩,
    ⟨none, .mov (.l 0)⟩,
    ⟨some (0, false), .fa 1 (.r 1)⟩,
    ⟨some (1, false), .ixp 16 1 (.l 0) (.v (.c (.d (.int .i64 0))))⟩,
    ⟨some (2, false), .ld false 1 (.l 0)⟩,
    ⟨some (3, false), .bin .lss (.l 0) (.v (.c (.d (.int .u32 2))))⟩,
    ⟨some (4, false), .mov (.l 0)⟩,
    ⟨some (0, true), .fa 1 (.r 1)⟩,
    ⟨some (1, true), .ixp 16 1 (.l 0) (.v (.c (.d (.int .i64 1))))⟩,
    ⟨some (2, true), .ld false 1 (.l 0)⟩,
    ⟨some (3, true), .bin .gtr (.l 0) (.v (.c (.d (.int .u32 39))))⟩,
    ⟨some (9, false), .pick (.l 4) (.l 0) (.v (.c (.d (.bool false))))⟩,
    ⟨none, .pick (.l 10) (.v (.c (.d (.bool true)))) (.l 0)⟩,
    ⟨none, .mov (.l 0)⟩,
    ⟨some (0, false), .fa 1 (.r 1)⟩,
    ⟨some (1, false), .ixp 16 1 (.l 0) (.v (.c (.d (.int .i64 1))))⟩,
    ⟨some (2, false), .ld false 1 (.l 0)⟩,
    ⟨some (3, false), .bin .gtr (.l 0) (.v (.c (.d (.int .u32 4294967215))))⟩,
    ⟨none, .pick (.l 4) (.v (.c (.d (.bool true)))) (.l 0)⟩] [(4, 0)] []) (
  .cond (.r 4) (
  .seq (.reg false [⟨none, .mov (.v (.c (.d (.bool false))))⟩] [(2, 0)] []) (
  .ret)) (
  .skip))) (
  .seq (.seq (.reg false [⟨none, .fa 0 (.r 1)⟩,
    ⟨none, .ld false 1 (.l 0)⟩,
    ⟨none, .cvi .i64 (.l 0)⟩,
    ⟨none, .mov (.l 0)⟩] [(3, 0)] []) (
  .block 0 (
  .loop (some [1, 3]) (
  .seq (.seq (.reg false [⟨none, .mov (.r 3)⟩,
    ⟨none, .bin .lss (.l 0) (.v (.c (.d (.int .i64 16))))⟩] [(5, 0)] []) (
  .cond (.r 5) (
  .skip) (
  .exit 0))) (
  .seq (.block 1 (
  .seq (.reg false [⟨none, .mov (.r 3)⟩,
    ⟨none, .fa 1 (.r 1)⟩,
    ⟨none, .ixp 16 1 (.l 0) (.l 1)⟩,
    ⟨none, .ld false 1 (.l 0)⟩,
    ⟨none, .bin .neq (.l 0) (.v (.c (.d (.int .u32 0))))⟩] [(6, 0)] []) (
  .cond (.r 6) (
  .seq (.reg false [⟨none, .mov (.v (.c (.d (.bool false))))⟩] [(2, 0)] []) (
  .ret)) (
  .skip)))) (
  .reg false [⟨none, .mov (.r 3)⟩,
    ⟨none, .bin .add (.l 0) (.v (.c (.d (.int .i64 1))))⟩,
    ⟨none, .mov (.l 0)⟩] [(3, 0)] [])))))) (
  .seq (.reg false [⟨none, .mov (.v (.c (.d (.bool true))))⟩] [(2, 0)] []) (
  .ret))))⟩

/-- vidimus/vidimusref34.Compare -/
def fn103 : Fn := ⟨2, 12, [0, 1, 2, 3, 4, 5, 7, 21, 30, 39, 44, 49], [.r 4],
  .seq (.reg false [⟨none, .box (.r 0)⟩,
    ⟨none, .box (.r 1)⟩,
    ⟨none, .mov (.v (.c (.d (.int .i64 0))))⟩] [(2, 2), (3, 1), (4, 0)] []) (
  .seq (.seq (.reg false [⟨none, .mov (.v (.c (.d (.int .i64 0))))⟩] [(5, 0)] []) (
  .block 0 (
  .loop (some [2, 3, 5]) (
  .seq (.seq (.reg false [⟨none, .mov (.r 5)⟩,
    ⟨none, .bin .lss (.l 0) (.v (.c (.d (.int .i64 16))))⟩] [(6, 0)] []) (
  .cond (.r 6) (
  .skip) (
  .exit 0))) (
  .seq (.block 1 (
  .seq (.seq (.reg false [⟨none, .mov (.r 5)⟩,
    ⟨none, .fa 0 (.r 2)⟩,
    ⟨none, .ld false 1 (.l 0)⟩,
    ⟨none, .cvi .i64 (.l 0)⟩,
    ⟨none, .bin .geq (.l 3) (.l 0)⟩,
    ⟨none, .mov (.l 0)⟩,
    ⟨some (0, false), .mov (.r 5)⟩,
    ⟨some (1, false), .fa 0 (.r 3)⟩,
    ⟨some (2, false), .ld false 1 (.l 0)⟩,
    ⟨some (3, false), .cvi .i64 (.l 0)⟩,
    ⟨some (4, false), .bin .geq (.l 3) (.l 0)⟩,
    ⟨none, .pick (.l 5) (.v (.c (.d (.bool true)))) (.l 0)⟩] [(7, 0)] []) (
  .cond (.r 7) (
  .exit 0) (
  .skip))) (
  .seq (.seq (.reg true [⟨none, .mov (.r 5)⟩,
    ⟨none, .fa 1 (.r 2)⟩,
    ⟨none, .ixp 16 1 (.l 0) (.l 1)⟩,
    ⟨none, .ld false 1 (.l 0)⟩,
    ⟨none, .mov (.r 5)⟩,
    ⟨none, .fa 1 (.r 3)⟩,
    ⟨none, .ixp 16 1 (.l 0) (.l 1)⟩,
    ⟨none, .ld false 1 (.l 0)⟩,
    ⟨none, .bin .lss (.l 4) (.l 0)⟩] [(8, 0)] []) (
  .cond (.r 8) (
  .seq (.reg false [⟨none, .mov (.v (.c (.d (.int .i64 (-1)))))⟩] [(4, 0)] []) (
  .ret)) (
  .skip))) (
  .seq (.reg true [⟨none, .mov (.r 5)⟩,
    ⟨none, .fa 1 (.r 2)⟩,
    ⟨none, .ixp 16 1 (.l 0) (.l 1)⟩,
    ⟨none, .ld false 1 (.l 0)⟩,
    ⟨none, .mov (.r 5)⟩,
    ⟨none, .fa 1 (.r 3)⟩,
    ⟨none, .ixp 16 1 (.l 0) (.l 1)⟩,
    ⟨none, .ld false 1 (.l 0)⟩,
    ⟨none, .bin .gtr (.l 4) (.l 0)⟩] [(9, 0)] []) (
  .cond (.r 9) (
  .seq (.reg false [⟨none, .mov (.v (.c (.d (.int .i64 1))))⟩] [(4, 0)] []) (
  .ret)) (
  .skip)))))) (
  .reg false [⟨none, .mov (.r 5)⟩,
    ⟨none, .bin .add (.l 0) (.v (.c (.d (.int .i64 1))))⟩,
    ⟨none, .mov (.l 0)⟩] [(5, 0)] [])))))) (
  .seq (.seq (.reg false [⟨none, .fa 0 (.r 2)⟩,
    ⟨none, .ld false 1 (.l 0)⟩,
    ⟨none, .fa 0 (.r 3)⟩,
    ⟨none, .ld false 1 (.l 0)⟩,
    ⟨none, .bin .lss (.l 2) (.l 0)⟩] [(10, 0)] []) (
  .cond (.r 10) (
  .seq (.reg false [⟨none, .mov (.v (.c (.d (.int .i64 (-1)))))⟩] [(4, 0)] []) (
  .ret)) (
  .skip))) (
  .seq (.seq (.reg false [⟨none, .fa 0 (.r 2)⟩,
    ⟨none, .ld false 1 (.l 0)⟩,
    ⟨none, .fa 0 (.r 3)⟩,
    ⟨none, .ld false 1 (.l 0)⟩,
    ⟨none, .bin .gtr (.l 2) (.l 0)⟩] [(11, 0)] []) (
  .cond (.r 11) (
  .seq (.reg false [⟨none, .mov (.v (.c (.d (.int .i64 1))))⟩] [(4, 0)] []) (
  .ret)) (
  .skip))) (
  .seq (.reg false [⟨none, .mov (.v (.c (.d (.int .i64 0))))⟩] [(4, 0)] []) (
  .ret)))))⟩

/-- vidimus/oids.Of -/
def fn107 : Fn := ⟨1, 5, [0, 2, 3, 6, 18], [.cell 1 17 true],
  .seq (.reg false [⟨none, .new [.int .u8 0, .int .u32 0, .int .u32 0, .int .u32 0, .int .u32 0, .int .u32 0, .int .u32 0, .int .u32 0, .int .u32 0, .int .u32 0, .int .u32 0, .int .u32 0, .int .u32 0, .int .u32 0, .int .u32 0, .int .u32 0, .int .u32 0]⟩] [(1, 0)] []) (
  .seq (.seq (.reg false [⟨none, .mov (.r 0)⟩,
    ⟨none, .len (.l 0)⟩,
    ⟨none, .bin .gtr (.l 0) (.v (.c (.d (.int .i64 16))))⟩] [(3, 0)] []) (
  .cond (.r 3) (
  .seq (.reg false [⟨none, .bld [.int .u8 0, .int .u32 0, .int .u32 0, .int .u32 0, .int .u32 0, .int .u32 0, .int .u32 0, .int .u32 0, .int .u32 0, .int .u32 0, .int .u32 0, .int .u32 0, .int .u32 0, .int .u32 0, .int .u32 0, .int .u32 0, .int .u32 0] []⟩,
    ⟨none, .st 17 (.r 1) (.l 0)⟩] [] []) (
  .ret)) (
  .skip))) (
  .seq (.reg false [⟨none, .mov (.r 0)⟩,
    ⟨none, .len (.l 0)⟩,
    ⟨none, .cvi .u8 (.l 0)⟩,
    ⟨none, .bld [.int .u8 0, .int .u32 0, .int .u32 0, .int .u32 0, .int .u32 0, .int .u32 0, .int .u32 0, .int .u32 0, .int .u32 0, .int .u32 0, .int .u32 0, .int .u32 0, .int .u32 0, .int .u32 0, .int .u32 0, .int .u32 0, .int .u32 0] [(0, 1, (.l 0))]⟩,
    ⟨none, .pre⟩,
    ⟨none, .ini 17 (.l 1)⟩] [(2, 0)] []) (
  .seq (.reg false [⟨none, .fa 1 (.r 2)⟩,
    ⟨none, .slp 16 1 (.l 0) none none none⟩,
    ⟨none, .mov (.r 0)⟩,
    ⟨none, .cpy 1 (.l 1) (.l 0)⟩] [] []) (
  .seq (.seq (.reg false [⟨none, .ld true 17 (.r 2)⟩,
    ⟨none, .vc 53 [(.l 0)]⟩,
    ⟨none, .bin .neq (.l 0) (.v (.c (.d (.int .i64 0))))⟩] [(4, 0)] []) (
  .cond (.r 4) (
  .seq (.reg false [⟨none, .bld [.int .u8 0, .int .u32 0, .int .u32 0, .int .u32 0, .int .u32 0, .int .u32 0, .int .u32 0, .int .u32 0, .int .u32 0, .int .u32 0, .int .u32 0, .int .u32 0, .int .u32 0, .int .u32 0, .int .u32 0, .int .u32 0, .int .u32 0] []⟩,
    ⟨none, .st 17 (.r 1) (.l 0)⟩] [] []) (
  .ret)) (
  .skip))) (
  .seq (.reg false [⟨none, .ld true 17 (.r 2)⟩,
    ⟨none, .st 17 (.r 1) (.l 0)⟩] [] []) (
  .ret))))))⟩

/-- slices.Index[[]vidimus/api.OID,vidimus/api.OID] -/
def fn108 : Fn := ⟨2, 9, [0, 1, 3, 4, 5, 7, 8, 9, 16], [.r 3],
  .seq (.reg false [⟨none, .box (.r 1)⟩,
    ⟨none, .mov (.v (.c (.d (.int .i64 0))))⟩] [(2, 1), (3, 0)] []) (
  .seq (.seq (.reg false [⟨none, .mov (.r 0)⟩,
    ⟨none, .len (.l 0)⟩,
    ⟨none, .mov (.v (.c (.d (.int .i64 0))))⟩] [(5, 1), (6, 0)] []) (
  .block 0 (
  .loop (some [0, 2, 5, 6]) (
  .seq (.reg false [⟨none, .bin .lss (.r 6) (.r 5)⟩] [(7, 0)] []) (
  .seq (.cond (.r 7) (
  .skip) (
  .exit 0)) (
  .seq (.block 1 (
  .seq (.reg false [⟨none, .mov (.r 6)⟩,
    ⟨none, .mov (.l 0)⟩] [(4, 0)] []) (
  .seq (.reg true [⟨none, .ld true 17 (.r 2)⟩,
    ⟨none, .mov (.r 0)⟩,
    ⟨none, .mov (.r 4)⟩,
    ⟨none, .ixa 17 (.l 1) (.l 0)⟩,
    ⟨none, .ld true 17 (.l 0)⟩,
    ⟨none, .eqa false 17 (.l 4) (.l 0)⟩] [(8, 0)] []) (
  .cond (.r 8) (
  .seq (.reg false [⟨none, .mov (.r 4)⟩,
    ⟨none, .mov (.l 0)⟩] [(3, 0)] []) (
  .ret)) (
  .skip))))) (
  .reg false [⟨none, .bin .add (.r 6) (.v (.c (.d (.int .i64 1))))⟩,
    ⟨none, .mov (.l 0)⟩] [(6, 0)] []))))))) (
  .seq (.reg false [⟨none, .mov (.v (.c (.d (.int .i64 (-1)))))⟩] [(3, 0)] []) (
  .ret)))⟩

/-- cmp.Compare[uint32] -/
def fn109 : Fn := ⟨2, 10, [0, 1, 4, 5, 6, 11, 12, 13, 16, 19], [.r 2],
  .seq (.reg false [⟨none, .mov (.v (.c (.d (.int .i64 0))))⟩] [(2, 0)] []) (
  .seq (.reg false [⟨none, .mov (.r 0)⟩,
    ⟨none, .vc 135 [(.l 0)]⟩,
    ⟨none, .mov (.l 0)⟩] [(3, 0)] []) (
  .seq (.reg false [⟨none, .mov (.r 1)⟩,
    ⟨none, .vc 135 [(.l 0)]⟩,
    ⟨none, .mov (.l 0)⟩] [(4, 0)] []) (
  .seq (.seq (.reg false [⟨none, .mov (.r 3)⟩] [(5, 0)] []) (
  .cond (.r 5) (
  .seq (.seq (.reg false [⟨none, .mov (.r 4)⟩] [(6, 0)] []) (
  .cond (.r 6) (
  .seq (.reg false [⟨none, .mov (.v (.c (.d (.int .i64 0))))⟩] [(2, 0)] []) (
  .ret)) (
  .skip))) (
  .seq (.reg false [⟨none, .mov (.v (.c (.d (.int .i64 (-1)))))⟩] [(2, 0)] []) (
  .ret))) (
  .skip))) (
  .seq (.seq (.reg false [⟨none, .mov (.r 4)⟩] [(7, 0)] []) (
  .cond (.r 7) (
  .seq (.reg false [⟨none, .mov (.v (.c (.d (.int .i64 1))))⟩] [(2, 0)] []) (
  .ret)) (
  .skip))) (
  .seq (.seq (.reg false [⟨none, .mov (.r 0)⟩,
    ⟨none, .mov (.r 1)⟩,
    ⟨none, .bin .lss (.l 1) (.l 0)⟩] [(8, 0)] []) (
  .cond (.r 8) (
  .seq (.reg false [⟨none, .mov (.v (.c (.d (.int .i64 (-1)))))⟩] [(2, 0)] []) (
  .ret)) (
  .skip))) (
  .seq (.seq (.reg false [⟨none, .mov (.r 0)⟩,
    ⟨none, .mov (.r 1)⟩,
    ⟨none, .bin .gtr (.l 1) (.l 0)⟩] [(9, 0)] []) (
  .cond (.r 9) (
  .seq (.reg false [⟨none, .mov (.v (.c (.d (.int .i64 1))))⟩] [(2, 0)] []) (
  .ret)) (
  .skip))) (
  .seq (.reg false [⟨none, .mov (.v (.c (.d (.int .i64 0))))⟩] [(2, 0)] []) (
  .ret))))))))⟩

/-- internal/strconv.FormatUint -/
def fn111 : Fn := ⟨2, 8, [0, 1, 4, 5, 6, 8, 10, 12], [.r 2],
  .seq (.reg false [⟨none, .mov (.v (.c (.d (.str []))))⟩] [(2, 0)] []) (
  .seq (.seq (.reg false [⟨none, .mov (.r 1)⟩,
    ⟨none, .bin .eql (.l 0) (.v (.c (.d (.int .i64 10))))⟩] [(6, 0)] []) (
  .cond (.r 6) (
  .seq (.seq (.reg false [⟨none, .mov (.r 0)⟩,
    ⟨none, .bin .lss (.l 0) (.v (.c (.d (.int .u64 100))))⟩] [(7, 0)] []) (
  .cond (.r 7) (
  .seq (.reg false [⟨none, .mov (.r 0)⟩,
    ⟨none, .cvi .i64 (.l 0)⟩,
    ⟨none, .vc 136 [(.l 0)]⟩,
    ⟨none, .mov (.l 0)⟩] [(2, 0)] []) (
  .ret)) (
  .skip))) (
  .seq (.reg false [⟨none, .new [.int .u8 0, .int .u8 0, .int .u8 0, .int .u8 0, .int .u8 0, .int .u8 0, .int .u8 0, .int .u8 0, .int .u8 0, .int .u8 0, .int .u8 0, .int .u8 0, .int .u8 0, .int .u8 0, .int .u8 0, .int .u8 0, .int .u8 0, .int .u8 0, .int .u8 0, .int .u8 0, .int .u8 0, .int .u8 0, .int .u8 0, .int .u8 0]⟩] [(3, 0)] []) (
  .seq (.reg false [⟨none, .mov (.r 0)⟩,
    ⟨none, .pc 137 [(.l 0)]⟩,
    ⟨none, .mov (.l 0)⟩] [(4, 0)] []) (
  .seq (.reg false [⟨none, .mov (.r 4)⟩,
    ⟨none, .slp 24 1 (.r 3) none (some (.l 0)) none⟩,
    ⟨none, .mov (.r 0)⟩,
    ⟨none, .hc (.v (.c (.d (.fn 138 [] [])))) [(.l 1), (.l 0)]⟩] [] []) (
  .seq (.reg false [⟨none, .mov (.r 4)⟩,
    ⟨none, .slp 24 1 (.r 3) none (some (.l 0)) none⟩,
    ⟨none, .b2s (.l 0)⟩,
    ⟨none, .mov (.l 0)⟩] [(2, 0)] []) (
  .ret)))))) (
  .skip))) (
  .seq (.reg false [⟨none, .mov (.r 0)⟩,
    ⟨none, .mov (.r 1)⟩,
    ⟨none, .vc 139 [(.v (.c (.d (.nils)))), (.l 1), (.l 0), (.v (.c (.d (.bool false)))), (.v (.c (.d (.bool false))))]⟩,
    ⟨none, .mov (.l 0)⟩,
    ⟨none, .ext (.l 0) 0⟩,
    ⟨none, .ext (.l 1) 1⟩,
    ⟨none, .mov (.l 1)⟩,
    ⟨none, .mov (.l 1)⟩] [(5, 0)] []) (
  .seq (.reg false [⟨none, .mov (.r 5)⟩,
    ⟨none, .mov (.l 0)⟩] [(2, 0)] []) (
  .ret))))⟩

/-- strings.splitSeq -/
def fn115 : Fn := ⟨3, 7, [0, 1, 2, 3, 4, 5, 6], [.r 6],
  .seq (.reg false [⟨none, .box (.r 0)⟩,
    ⟨none, .box (.r 1)⟩,
    ⟨none, .box (.r 2)⟩,
    ⟨none, .mov (.v (.c (.d (.nilf))))⟩] [(3, 3), (4, 2), (5, 1), (6, 0)] []) (
  .seq (.reg false [⟨none, .mkf 148 [] [(.r 4), (.r 3), (.r 5)]⟩,
    ⟨none, .mov (.l 0)⟩] [(6, 0)] []) (
  .ret))⟩

/-- slices.ContainsFunc[[]string,string] -/
def fn116 : Fn := ⟨2, 3, [0, 1, 4], [.r 2],
  .seq (.reg false [⟨none, .mov (.v (.c (.d (.bool false))))⟩] [(2, 0)] []) (
  .seq (.reg false [⟨none, .mov (.r 0)⟩,
    ⟨none, .mov (.r 1)⟩,
    ⟨none, .vc 150 [(.l 1), (.l 0)]⟩,
    ⟨none, .bin .geq (.l 0) (.v (.c (.d (.int .i64 0))))⟩,
    ⟨none, .mov (.l 0)⟩] [(2, 0)] []) (
  .ret))⟩

/-- vidimus/oids.Parse$1 -/
def fn117 : Fn := ⟨1, 2, [0, 2], [.r 1],
  .seq (.reg false [⟨none, .mov (.v (.c (.d (.bool false))))⟩] [(1, 0)] []) (
  .seq (.reg false [⟨none, .mov (.r 0)⟩,
    ⟨none, .vc 118 [(.l 0)]⟩,
    ⟨none, .un .not (.l 0)⟩,
    ⟨none, .mov (.l 0)⟩] [(1, 0)] []) (
  .ret))⟩

/-- vidimus/oids.decimal -/
def fn118 : Fn := ⟨1, 2, [0, 2], [.r 1],
  .seq (.reg false [⟨none, .mov (.v (.c (.d (.bool false))))⟩] [(1, 0)] []) (
  .seq (.reg false [⟨none, .mov (.r 0)⟩,
    ⟨none, .bin .eql (.l 0) (.v (.c (.d (.str [48]))))⟩,
    ⟨none, .mov (.l 0)⟩,
    ⟨some (0, false), .mov (.r 0)⟩,
    ⟨some (1, false), .bin .neq (.l 0) (.v (.c (.d (.str []))))⟩,
    ⟨some (2, false), .mov (.l 0)⟩,
    ⟨some (0, true), .mov (.r 0)⟩,
    ⟨some (1, true), .ixs (.l 0) (.v (.c (.d (.int .i64 0))))⟩,
    ⟨some (2, true), .bin .neq (.l 0) (.v (.c (.d (.int .u8 48))))⟩,
    ⟨some (6, false), .pick (.l 3) (.l 0) (.v (.c (.d (.bool false))))⟩,
    ⟨some (7, false), .mov (.l 0)⟩,
    ⟨some (0, true), .mov (.r 0)⟩,
    ⟨some (1, true), .pc 151 [(.l 0), (.v (.c (.d (.str [48, 49, 50, 51, 52, 53, 54, 55, 56, 57]))))]⟩,
    ⟨some (2, true), .bin .eql (.l 0) (.v (.c (.d (.str []))))⟩,
    ⟨some (11, false), .pick (.l 3) (.l 0) (.v (.c (.d (.bool false))))⟩,
    ⟨none, .pick (.l 12) (.v (.c (.d (.bool true)))) (.l 0)⟩,
    ⟨none, .mov (.l 0)⟩] [(1, 0)] []) (
  .ret))⟩

/-- cmp.isNaN[uint32] -/
def fn135 : Fn := ⟨1, 2, [0, 2], [.r 1],
  .seq (.reg false [⟨none, .mov (.v (.c (.d (.bool false))))⟩] [(1, 0)] []) (
  .seq (.reg false [⟨none, .mov (.r 0)⟩,
    ⟨none, .mov (.r 0)⟩,
    ⟨none, .bin .neq (.l 1) (.l 0)⟩,
    ⟨none, .mov (.l 0)⟩] [(1, 0)] []) (
  .ret))⟩

/-- internal/strconv.small -/
def fn136 : Fn := ⟨1, 3, [0, 2, 4], [.r 1],
  .seq (.reg false [⟨none, .mov (.v (.c (.d (.str []))))⟩] [(1, 0)] []) (
  .seq (.seq (.reg false [⟨none, .mov (.r 0)⟩,
    ⟨none, .bin .lss (.l 0) (.v (.c (.d (.int .i64 10))))⟩] [(2, 0)] []) (
  .cond (.r 2) (
  .seq (.reg false [⟨none, .mov (.r 0)⟩,
    ⟨none, .mov (.r 0)⟩,
    ⟨none, .bin .add (.l 0) (.v (.c (.d (.int .i64 1))))⟩,
    ⟨none, .sls (.v (.c (.d (.str [48, 49, 50, 51, 52, 53, 54, 55, 56, 57, 97, 98, 99, 100, 101, 102, 103, 104, 105, 106, 107, 108, 109, 110, 111, 112, 113, 114, 115, 116, 117, 118, 119, 120, 121, 122])))) (some (.l 2)) (some (.l 0))⟩,
    ⟨none, .mov (.l 0)⟩] [(1, 0)] []) (
  .ret)) (
  .skip))) (
  .seq (.reg false [⟨none, .mov (.r 0)⟩,
    ⟨none, .bin .mul (.l 0) (.v (.c (.d (.int .i64 2))))⟩,
    ⟨none, .mov (.r 0)⟩,
    ⟨none, .bin .mul (.l 0) (.v (.c (.d (.int .i64 2))))⟩,
    ⟨none, .bin .add (.l 0) (.v (.c (.d (.int .i64 2))))⟩,
    ⟨none, .sls (.v (.c (.d (.str [48, 48, 48, 49, 48, 50, 48, 51, 48, 52, 48, 53, 48, 54, 48, 55, 48, 56, 48, 57, 49, 48, 49, 49, 49, 50, 49, 51, 49, 52, 49, 53, 49, 54, 49, 55, 49, 56, 49, 57, 50, 48, 50, 49, 50, 50, 50, 51, 50, 52, 50, 53, 50, 54, 50, 55, 50, 56, 50, 57, 51, 48, 51, 49, 51, 50, 51, 51, 51, 52, 51, 53, 51, 54, 51, 55, 51, 56, 51, 57, 52, 48, 52, 49, 52, 50, 52, 51, 52, 52, 52, 53, 52, 54, 52, 55, 52, 56, 52, 57, 53, 48, 53, 49, 53, 50, 53, 51, 53, 52, 53, 53, 53, 54, 53, 55, 53, 56, 53, 57, 54, 48, 54, 49, 54, 50, 54, 51, 54, 52, 54, 53, 54, 54, 54, 55, 54, 56, 54, 57, 55, 48, 55, 49, 55, 50, 55, 51, 55, 52, 55, 53, 55, 54, 55, 55, 55, 56, 55, 57, 56, 48, 56, 49, 56, 50, 56, 51, 56, 52, 56, 53, 56, 54, 56, 55, 56, 56, 56, 57, 57, 48, 57, 49, 57, 50, 57, 51, 57, 52, 57, 53, 57, 54, 57, 55, 57, 56, 57, 57])))) (some (.l 3)) (some (.l 0))⟩,
    ⟨none, .mov (.l 0)⟩] [(1, 0)] []) (
  .ret)))⟩

/-- strings.splitSeq$1 -/
def fn148 : Fn := ⟨4, 12, [0, 1, 2, 3, 6, 7, 8, 11, 14, 25, 33, 42], [],
  .seq (.seq (.reg false [⟨none, .ld false 1 (.r 1)⟩,
    ⟨none, .lns (.l 0)⟩,
    ⟨none, .bin .eql (.l 0) (.v (.c (.d (.int .i64 0))))⟩] [(7, 0)] []) (
  .cond (.r 7) (
  .seq (.block 0 (
  .loop (some [0, 2]) (
  .seq (.seq (.reg false [⟨none, .ld false 1 (.r 2)⟩,
    ⟨none, .lns (.l 0)⟩,
    ⟨none, .bin .gtr (.l 0) (.v (.c (.d (.int .i64 0))))⟩] [(8, 0)] []) (
  .cond (.r 8) (
  .skip) (
  .exit 0))) (
  .block 1 (
  .seq (.reg false [⟨none, .ld false 1 (.r 2)⟩,
    ⟨none, .vc 149 [(.l 0)]⟩,
    ⟨none, .mov (.l 0)⟩,
    ⟨none, .ext (.l 0) 0⟩,
    ⟨none, .ext (.l 1) 1⟩,
    ⟨none, .mov (.l 1)⟩,
    ⟨none, .mov (.l 1)⟩] [(4, 0)] []) (
  .seq (.seq (.reg false [⟨none, .mov (.r 0)⟩,
    ⟨none, .ld false 1 (.r 2)⟩,
    ⟨none, .mov (.r 4)⟩,
    ⟨none, .sls (.l 1) none (some (.l 0))⟩,
    ⟨none, .hc (.l 3) [(.l 0)]⟩,
    ⟨none, .un .not (.l 0)⟩] [(9, 0)] []) (
  .cond (.r 9) (
  .ret) (
  .skip))) (
  .reg false [⟨none, .ld false 1 (.r 2)⟩,
    ⟨none, .mov (.r 4)⟩,
    ⟨none, .sls (.l 1) (some (.l 0)) none⟩,
    ⟨none, .st 1 (.r 2) (.l 0)⟩] [] []))))))) (
  .ret)) (
  .skip))) (
  .seq (.block 2 (
  .loop (some [0, 1, 2, 3]) (
  .block 3 (
  .seq (.reg false [⟨none, .ld false 1 (.r 2)⟩,
    ⟨none, .ld false 1 (.r 1)⟩,
    ⟨none, .pc 147 [(.l 1), (.l 0)]⟩,
    ⟨none, .mov (.l 0)⟩] [(5, 0)] []) (
  .seq (.seq (.reg false [⟨none, .mov (.r 5)⟩,
    ⟨none, .bin .lss (.l 0) (.v (.c (.d (.int .i64 0))))⟩] [(10, 0)] []) (
  .cond (.r 10) (
  .exit 2) (
  .skip))) (
  .seq (.reg false [⟨none, .ld false 1 (.r 2)⟩,
    ⟨none, .mov (.r 5)⟩,
    ⟨none, .ld false 1 (.r 3)⟩,
    ⟨none, .bin .add (.l 1) (.l 0)⟩,
    ⟨none, .sls (.l 3) none (some (.l 0))⟩,
    ⟨none, .mov (.l 0)⟩] [(6, 0)] []) (
  .seq (.seq (.reg false [⟨none, .mov (.r 0)⟩,
    ⟨none, .mov (.r 6)⟩,
    ⟨none, .hc (.l 1) [(.l 0)]⟩,
    ⟨none, .un .not (.l 0)⟩] [(11, 0)] []) (
  .cond (.r 11) (
  .ret) (
  .skip))) (
  .reg false [⟨none, .ld false 1 (.r 2)⟩,
    ⟨none, .mov (.r 5)⟩,
    ⟨none, .ld false 1 (.r 1)⟩,
    ⟨none, .lns (.l 0)⟩,
    ⟨none, .bin .add (.l 2) (.l 0)⟩,
    ⟨none, .sls (.l 4) (some (.l 0)) none⟩,
    ⟨none, .st 1 (.r 2) (.l 0)⟩] [] [])))))))) (
  .reg false [⟨none, .mov (.r 0)⟩,
    ⟨none, .ld false 1 (.r 2)⟩,
    ⟨none, .hc (.l 1) [(.l 0)]⟩] [] []))⟩

/-- unicode/utf8.DecodeRuneInString -/
def fn149 : Fn := ⟨1, 4, [0, 2, 3, 10], [.r 1, .r 2],
  .seq (.reg false [⟨none, .mov (.v (.c (.d (.int .i32 0))))⟩,
    ⟨none, .mov (.v (.c (.d (.int .i64 0))))⟩] [(1, 1), (2, 0)] []) (
  .seq (.seq (.reg false [⟨none, .mov (.r 0)⟩,
    ⟨none, .bin .neq (.l 0) (.v (.c (.d (.str []))))⟩,
    ⟨none, .mov (.l 0)⟩,
    ⟨some (0, true), .mov (.r 0)⟩,
    ⟨some (1, true), .ixs (.l 0) (.v (.c (.d (.int .i64 0))))⟩,
    ⟨some (2, true), .bin .lss (.l 0) (.v (.c (.d (.int .u8 128))))⟩,
    ⟨none, .pick (.l 3) (.l 0) (.v (.c (.d (.bool false))))⟩] [(3, 0)] []) (
  .cond (.r 3) (
  .seq (.reg false [⟨none, .mov (.r 0)⟩,
    ⟨none, .ixs (.l 0) (.v (.c (.d (.int .i64 0))))⟩,
    ⟨none, .cvi .i32 (.l 0)⟩,
    ⟨none, .mov (.l 0)⟩,
    ⟨none, .mov (.v (.c (.d (.int .i64 1))))⟩] [(1, 1), (2, 0)] []) (
  .ret)) (
  .reg false [⟨none, .mov (.r 0)⟩,
    ⟨none, .vc 168 [(.l 0)]⟩,
    ⟨none, .mov (.l 0)⟩,
    ⟨none, .ext (.l 0) 0⟩,
    ⟨none, .ext (.l 1) 1⟩,
    ⟨none, .mov (.l 1)⟩,
    ⟨none, .mov (.l 1)⟩] [(1, 1), (2, 0)] []))) (
  .ret))⟩

/-- slices.IndexFunc[[]string,string] -/
def fn150 : Fn := ⟨2, 8, [0, 1, 4, 5, 7, 8, 9, 16], [.r 2],
  .seq (.reg false [⟨none, .mov (.v (.c (.d (.int .i64 0))))⟩] [(2, 0)] []) (
  .seq (.seq (.reg false [⟨none, .mov (.r 0)⟩,
    ⟨none, .len (.l 0)⟩,
    ⟨none, .mov (.v (.c (.d (.int .i64 0))))⟩] [(4, 1), (5, 0)] []) (
  .block 0 (
  .loop (some [0, 1, 4, 5]) (
  .seq (.reg false [⟨none, .bin .lss (.r 5) (.r 4)⟩] [(6, 0)] []) (
  .seq (.cond (.r 6) (
  .skip) (
  .exit 0)) (
  .seq (.block 1 (
  .seq (.reg false [⟨none, .mov (.r 5)⟩,
    ⟨none, .mov (.l 0)⟩] [(3, 0)] []) (
  .seq (.reg false [⟨none, .mov (.r 1)⟩,
    ⟨none, .mov (.r 0)⟩,
    ⟨none, .mov (.r 3)⟩,
    ⟨none, .ixa 1 (.l 1) (.l 0)⟩,
    ⟨none, .ld false 1 (.l 0)⟩,
    ⟨none, .hc (.l 4) [(.l 0)]⟩] [(7, 0)] []) (
  .cond (.r 7) (
  .seq (.reg false [⟨none, .mov (.r 3)⟩,
    ⟨none, .mov (.l 0)⟩] [(2, 0)] []) (
  .ret)) (
  .skip))))) (
  .reg false [⟨none, .bin .add (.r 5) (.v (.c (.d (.int .i64 1))))⟩,
    ⟨none, .mov (.l 0)⟩] [(5, 0)] []))))))) (
  .seq (.reg false [⟨none, .mov (.v (.c (.d (.int .i64 (-1)))))⟩] [(2, 0)] []) (
  .ret)))⟩

/-- unicode/utf8.decodeRuneInStringSlow -/
def fn168 : Fn := ⟨1, 20, [0, 2, 3, 4, 5, 6, 7, 8, 9, 10, 11, 12, 16, 23, 45, 57, 59, 75, 77, 98], [.r 1, .r 2],
  .seq (.reg false [⟨none, .mov (.v (.c (.d (.int .i32 0))))⟩,
    ⟨none, .mov (.v (.c (.d (.int .i64 0))))⟩] [(1, 1), (2, 0)] []) (
  .seq (.reg false [⟨none, .mov (.r 0)⟩,
    ⟨none, .lns (.l 0)⟩,
    ⟨none, .mov (.l 0)⟩] [(3, 0)] []) (
  .seq (.seq (.reg false [⟨none, .mov (.r 3)⟩,
    ⟨none, .bin .lss (.l 0) (.v (.c (.d (.int .i64 1))))⟩] [(12, 0)] []) (
  .cond (.r 12) (
  .seq (.reg false [⟨none, .mov (.v (.c (.d (.int .i32 65533))))⟩,
    ⟨none, .mov (.v (.c (.d (.int .i64 0))))⟩] [(1, 1), (2, 0)] []) (
  .ret)) (
  .skip))) (
  .seq (.reg false [⟨none, .mov (.r 0)⟩,
    ⟨none, .ixs (.l 0) (.v (.c (.d (.int .i64 0))))⟩,
    ⟨none, .mov (.l 0)⟩] [(4, 0)] []) (
  .seq (.reg false [⟨none, .mov (.r 4)⟩,
    ⟨none, .ixp 256 1 (.g 3) (.l 0)⟩,
    ⟨none, .ld false 1 (.l 0)⟩,
    ⟨none, .mov (.l 0)⟩] [(5, 0)] []) (
  .seq (.seq (.reg false [⟨none, .mov (.r 5)⟩,
    ⟨none, .bin .geq (.l 0) (.v (.c (.d (.int .u8 240))))⟩] [(13, 0)] []) (
  .cond (.r 13) (
  .seq (.reg false [⟨none, .mov (.r 5)⟩,
    ⟨none, .cvi .i32 (.l 0)⟩,
    ⟨none, .bin .shl (.l 0) (.v (.c (.d (.int .u64 31))))⟩,
    ⟨none, .bin .shr (.l 0) (.v (.c (.d (.int .u64 31))))⟩,
    ⟨none, .mov (.l 0)⟩] [(6, 0)] []) (
  .seq (.reg false [⟨none, .mov (.r 0)⟩,
    ⟨none, .ixs (.l 0) (.v (.c (.d (.int .i64 0))))⟩,
    ⟨none, .cvi .i32 (.l 0)⟩,
    ⟨none, .mov (.r 6)⟩,
    ⟨none, .bin .andNot (.l 1) (.l 0)⟩,
    ⟨none, .mov (.r 6)⟩,
    ⟨none, .bin .and (.v (.c (.d (.int .i32 65533)))) (.l 0)⟩,
    ⟨none, .bin .or (.l 2) (.l 0)⟩,
    ⟨none, .mov (.l 0)⟩,
    ⟨none, .mov (.v (.c (.d (.int .i64 1))))⟩] [(1, 1), (2, 0)] []) (
  .ret))) (
  .skip))) (
  .seq (.reg false [⟨none, .mov (.r 5)⟩,
    ⟨none, .bin .and (.l 0) (.v (.c (.d (.int .u8 7))))⟩,
    ⟨none, .cvi .i64 (.l 0)⟩,
    ⟨none, .mov (.l 0)⟩] [(7, 0)] []) (
  .seq (.reg false [⟨none, .mov (.r 5)⟩,
    ⟨none, .bin .shr (.l 0) (.v (.c (.d (.int .u64 4))))⟩,
    ⟨none, .ixp 16 2 (.g 4) (.l 0)⟩,
    ⟨none, .ld true 2 (.l 0)⟩,
    ⟨none, .pre⟩,
    ⟨none, .ini 2 (.l 1)⟩] [(8, 0)] []) (
  .seq (.seq (.reg false [⟨none, .mov (.r 3)⟩,
    ⟨none, .mov (.r 7)⟩,
    ⟨none, .bin .lss (.l 1) (.l 0)⟩] [(14, 0)] []) (
  .cond (.r 14) (
  .seq (.reg false [⟨none, .mov (.v (.c (.d (.int .i32 65533))))⟩,
    ⟨none, .mov (.v (.c (.d (.int .i64 1))))⟩] [(1, 1), (2, 0)] []) (
  .ret)) (
  .skip))) (
  .seq (.reg false [⟨none, .mov (.r 0)⟩,
    ⟨none, .ixs (.l 0) (.v (.c (.d (.int .i64 1))))⟩,
    ⟨none, .mov (.l 0)⟩] [(9, 0)] []) (
  .seq (.seq (.reg false [⟨none, .mov (.r 9)⟩,
    ⟨none, .fa 0 (.r 8)⟩,
    ⟨none, .ld false 1 (.l 0)⟩,
    ⟨none, .bin .lss (.l 2) (.l 0)⟩,
    ⟨none, .mov (.l 0)⟩,
    ⟨some (0, false), .fa 1 (.r 8)⟩,
    ⟨some (1, false), .ld false 1 (.l 0)⟩,
    ⟨some (2, false), .mov (.r 9)⟩,
    ⟨some (3, false), .bin .lss (.l 1) (.l 0)⟩,
    ⟨none, .pick (.l 4) (.v (.c (.d (.bool true)))) (.l 0)⟩] [(15, 0)] []) (
  .cond (.r 15) (
  .seq (.reg false [⟨none, .mov (.v (.c (.d (.int .i32 65533))))⟩,
    ⟨none, .mov (.v (.c (.d (.int .i64 1))))⟩] [(1, 1), (2, 0)] []) (
  .ret)) (
  .skip))) (
  .seq (.seq (.reg false [⟨none, .mov (.r 7)⟩,
    ⟨none, .bin .leq (.l 0) (.v (.c (.d (.int .i64 2))))⟩] [(16, 0)] []) (
  .cond (.r 16) (
  .seq (.reg false [⟨none, .mov (.r 4)⟩,
    ⟨none, .bin .and (.l 0) (.v (.c (.d (.int .u8 31))))⟩,
    ⟨none, .cvi .i32 (.l 0)⟩,
    ⟨none, .bin .shl (.l 0) (.v (.c (.d (.int .u64 6))))⟩,
    ⟨none, .mov (.r 9)⟩,
    ⟨none, .bin .and (.l 0) (.v (.c (.d (.int .u8 63))))⟩,
    ⟨none, .cvi .i32 (.l 0)⟩,
    ⟨none, .bin .or (.l 3) (.l 0)⟩,
    ⟨none, .mov (.l 0)⟩,
    ⟨none, .mov (.v (.c (.d (.int .i64 2))))⟩] [(1, 1), (2, 0)] []) (
  .ret)) (
  .skip))) (
  .seq (.reg false [⟨none, .mov (.r 0)⟩,
    ⟨none, .ixs (.l 0) (.v (.c (.d (.int .i64 2))))⟩,
    ⟨none, .mov (.l 0)⟩] [(10, 0)] []) (
  .seq (.seq (.reg false [⟨none, .mov (.r 10)⟩,
    ⟨none, .bin .lss (.l 0) (.v (.c (.d (.int .u8 128))))⟩,
    ⟨none, .mov (.l 0)⟩,
    ⟨some (0, false), .mov (.r 10)⟩,
    ⟨some (1, false), .bin .lss (.v (.c (.d (.int .u8 191)))) (.l 0)⟩,
    ⟨none, .pick (.l 2) (.v (.c (.d (.bool true)))) (.l 0)⟩] [(17, 0)] []) (
  .cond (.r 17) (
  .seq (.reg false [⟨none, .mov (.v (.c (.d (.int .i32 65533))))⟩,
    ⟨none, .mov (.v (.c (.d (.int .i64 1))))⟩] [(1, 1), (2, 0)] []) (
  .ret)) (
  .skip))) (
  .seq (.seq (.reg false [⟨none, .mov (.r 7)⟩,
    ⟨none, .bin .leq (.l 0) (.v (.c (.d (.int .i64 3))))⟩] [(18, 0)] []) (
  .cond (.r 18) (
  .seq (.reg false [⟨none, .mov (.r 4)⟩,
    ⟨none, .bin .and (.l 0) (.v (.c (.d (.int .u8 15))))⟩,
    ⟨none, .cvi .i32 (.l 0)⟩,
    ⟨none, .bin .shl (.l 0) (.v (.c (.d (.int .u64 12))))⟩,
    ⟨none, .mov (.r 9)⟩,
    ⟨none, .bin .and (.l 0) (.v (.c (.d (.int .u8 63))))⟩,
    ⟨none, .cvi .i32 (.l 0)⟩,
    ⟨none, .bin .shl (.l 0) (.v (.c (.d (.int .u64 6))))⟩,
    ⟨none, .bin .or (.l 4) (.l 0)⟩,
    ⟨none, .mov (.r 10)⟩,
    ⟨none, .bin .and (.l 0) (.v (.c (.d (.int .u8 63))))⟩,
    ⟨none, .cvi .i32 (.l 0)⟩,
    ⟨none, .bin .or (.l 3) (.l 0)⟩,
    ⟨none, .mov (.l 0)⟩,
    ⟨none, .mov (.v (.c (.d (.int .i64 3))))⟩] [(1, 1), (2, 0)] []) (
  .ret)) (
  .skip))) (
  .seq (.reg false [⟨none, .mov (.r 0)⟩,
    ⟨none, .ixs (.l 0) (.v (.c (.d (.int .i64 3))))⟩,
    ⟨none, .mov (.l 0)⟩] [(11, 0)] []) (
  .seq (.seq (.reg false [⟨none, .mov (.r 11)⟩,
    ⟨none, .bin .lss (.l 0) (.v (.c (.d (.int .u8 128))))⟩,
    ⟨none, .mov (.l 0)⟩,
    ⟨some (0, false), .mov (.r 11)⟩,
    ⟨some (1, false), .bin .lss (.v (.c (.d (.int .u8 191)))) (.l 0)⟩,
    ⟨none, .pick (.l 2) (.v (.c (.d (.bool true)))) (.l 0)⟩] [(19, 0)] []) (
  .cond (.r 19) (
  .seq (.reg false [⟨none, .mov (.v (.c (.d (.int .i32 65533))))⟩,
    ⟨none, .mov (.v (.c (.d (.int .i64 1))))⟩] [(1, 1), (2, 0)] []) (
  .ret)) (
  .skip))) (
  .seq (.reg false [⟨none, .mov (.r 4)⟩,
    ⟨none, .bin .and (.l 0) (.v (.c (.d (.int .u8 7))))⟩,
    ⟨none, .cvi .i32 (.l 0)⟩,
    ⟨none, .bin .shl (.l 0) (.v (.c (.d (.int .u64 18))))⟩,
    ⟨none, .mov (.r 9)⟩,
    ⟨none, .bin .and (.l 0) (.v (.c (.d (.int .u8 63))))⟩,
    ⟨none, .cvi .i32 (.l 0)⟩,
    ⟨none, .bin .shl (.l 0) (.v (.c (.d (.int .u64 12))))⟩,
    ⟨none, .bin .or (.l 4) (.l 0)⟩,
    ⟨none, .mov (.r 10)⟩,
    ⟨none, .bin .and (.l 0) (.v (.c (.d (.int .u8 63))))⟩,
    ⟨none, .cvi .i32 (.l 0)⟩,
    ⟨none, .bin .shl (.l 0) (.v (.c (.d (.int .u64 6))))⟩,
    ⟨none, .bin .or (.l 4) (.l 0)⟩,
    ⟨none, .mov (.r 11)⟩,
    ⟨none, .bin .and (.l 0) (.v (.c (.d (.int .u8 63))))⟩,
    ⟨none, .cvi .i32 (.l 0)⟩,
    ⟨none, .bin .or (.l 3) (.l 0)⟩,
    ⟨none, .mov (.l 0)⟩,
    ⟨none, .mov (.v (.c (.d (.int .i64 4))))⟩] [(1, 1), (2, 0)] []) (
  .ret))))))))))))))))))⟩

def fnsA : FuncId → Option Fn
  | 3 => some fn3
  | 4 => some fn4
  | 5 => some fn5
  | 6 => some fn6
  | 7 => some fn7
  | 10 => some fn10
  | 16 => some fn16
  | 17 => some fn17
  | 18 => some fn18
  | 19 => some fn19
  | 20 => some fn20
  | 21 => some fn21
  | 22 => some fn22
  | 23 => some fn23
  | 24 => some fn24
  | 25 => some fn25
  | 26 => some fn26
  | 27 => some fn27
  | 28 => some fn28
  | 29 => some fn29
  | 30 => some fn30
  | 31 => some fn31
  | 32 => some fn32
  | 33 => some fn33
  | 34 => some fn34
  | 42 => some fn42
  | 51 => some fn51
  | 52 => some fn52
  | 53 => some fn53
  | 54 => some fn54
  | 55 => some fn55
  | 56 => some fn56
  | 57 => some fn57
  | 58 => some fn58
  | 59 => some fn59
  | 60 => some fn60
  | 61 => some fn61
  | 62 => some fn62
  | 63 => some fn63
  | 66 => some fn66
  | 67 => some fn67
  | 68 => some fn68
  | 69 => some fn69
  | 70 => some fn70
  | 78 => some fn78
  | 83 => some fn83
  | 84 => some fn84
  | 85 => some fn85
  | 86 => some fn86
  | 87 => some fn87
  | 89 => some fn89
  | 93 => some fn93
  | 94 => some fn94
  | 95 => some fn95
  | 96 => some fn96
  | 97 => some fn97
  | 103 => some fn103
  | 107 => some fn107
  | 108 => some fn108
  | 109 => some fn109
  | 111 => some fn111
  | 115 => some fn115
  | 116 => some fn116
  | 117 => some fn117
  | 118 => some fn118
  | 135 => some fn135
  | 136 => some fn136
  | 148 => some fn148
  | 149 => some fn149
  | 150 => some fn150
  | 168 => some fn168
  | _ => none
end Mini
end Go.Proofs.YtgjlofpfbhioaaaGreatDoor
