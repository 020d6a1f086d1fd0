/-
  The code of the functions that the statements reach, in the abstract machine's form. Printed by a program of ours (tools/mini.py).
-/
import Derived.Test.YtcilepbdddgpoaaDoorMiniA
namespace Go.Proofs.YtcilepbdddgpoaaDoor
namespace Mini
/-- vidimus/vidimuslaw35.FamiliesWide -/
def fn3 : Fn := ⟨2, 12, [0, 1, 4, 5, 6, 7, 8, 9, 10, 11, 12, 40], [.r 2],
  .seq (.reg false [⟨none, .mov (.v (.c (.d (.bool false))))⟩] [(2, 0)] []) (
  .seq (.reg false [⟨none, .mov (.r 0)⟩,
    ⟨none, .mov (.r 1)⟩,
    ⟨none, .hc (.v (.c (.d (.fn 9 [] [])))) [(.l 1), (.l 0)]⟩,
    ⟨none, .mov (.l 0)⟩,
    ⟨none, .ext (.l 0) 0⟩,
    ⟨none, .ext (.l 1) 1⟩,
    ⟨none, .ext (.l 2) 2⟩,
    ⟨none, .pre⟩,
    ⟨none, .mov (.l 3)⟩,
    ⟨none, .ini 4 (.l 3)⟩,
    ⟨none, .mov (.l 3)⟩] [(3, 2), (4, 1), (5, 0)] []) (
  .seq (.reg false [⟨none, .mov (.r 0)⟩,
    ⟨none, .mov (.r 1)⟩,
    ⟨none, .vc 10 [(.l 1), (.l 0)]⟩,
    ⟨none, .mov (.l 0)⟩,
    ⟨none, .ext (.l 0) 0⟩,
    ⟨none, .ext (.l 1) 1⟩,
    ⟨none, .mov (.l 1)⟩,
    ⟨none, .mov (.l 1)⟩] [(6, 1), (7, 0)] []) (
  .seq (.reg false [⟨none, .mov (.r 0)⟩,
    ⟨none, .mov (.r 1)⟩,
    ⟨none, .vc 11 [(.l 1), (.l 0)]⟩,
    ⟨none, .mov (.l 0)⟩,
    ⟨none, .ext (.l 0) 0⟩,
    ⟨none, .ext (.l 1) 1⟩,
    ⟨none, .ext (.l 2) 2⟩,
    ⟨none, .mov (.l 2)⟩,
    ⟨none, .mov (.l 2)⟩,
    ⟨none, .mov (.l 2)⟩] [(8, 2), (9, 1), (10, 0)] []) (
  .seq (.seq (.reg false [⟨none, .mov (.r 0)⟩,
    ⟨none, .vc 12 [(.l 0), (.v (.c (.d (.int .i64 1)))), (.v (.c (.d (.int .i64 64))))]⟩,
    ⟨none, .un .not (.l 0)⟩,
    ⟨none, .mov (.l 0)⟩,
    ⟨some (0, false), .mov (.r 1)⟩,
    ⟨some (1, false), .vc 12 [(.l 0), (.v (.c (.d (.int .i64 1)))), (.v (.c (.d (.int .i64 8))))]⟩,
    ⟨some (2, false), .un .not (.l 0)⟩,
    ⟨none, .pick (.l 3) (.v (.c (.d (.bool true)))) (.l 0)⟩] [(11, 0)] []) (
  .cond (.r 11) (
  .seq (.reg false [⟨none, .mov (.r 5)⟩,
    ⟨none, .bin .eql (.l 0) (.v (.c (.d (.int .i64 1))))⟩,
    ⟨none, .mov (.l 0)⟩,
    ⟨some (0, true), .mov (.r 7)⟩,
    ⟨some (1, true), .bin .eql (.l 0) (.v (.c (.d (.int .i64 1))))⟩,
    ⟨none, .pick (.l 2) (.l 0) (.v (.c (.d (.bool false))))⟩,
    ⟨none, .mov (.l 0)⟩,
    ⟨some (0, true), .mov (.r 10)⟩,
    ⟨some (1, true), .bin .eql (.l 0) (.v (.c (.d (.int .i64 1))))⟩,
    ⟨none, .pick (.l 2) (.l 0) (.v (.c (.d (.bool false))))⟩,
    ⟨none, .mov (.l 0)⟩,
    ⟨some (0, true), .mov (.r 3)⟩,
    ⟨some (1, true), .len (.l 0)⟩,
    ⟨some (2, true), .bin .eql (.l 0) (.v (.c (.d (.int .i64 0))))⟩,
    ⟨none, .pick (.l 3) (.l 0) (.v (.c (.d (.bool false))))⟩,
    ⟨none, .mov (.l 0)⟩,
    ⟨some (0, true), .fa 0 (.r 4)⟩,
    ⟨some (1, true), .ld false 1 (.l 0)⟩,
    ⟨some (2, true), .len (.l 0)⟩,
    ⟨some (3, true), .bin .eql (.l 0) (.v (.c (.d (.int .i64 0))))⟩,
    ⟨none, .pick (.l 4) (.l 0) (.v (.c (.d (.bool false))))⟩,
    ⟨none, .mov (.l 0)⟩,
    ⟨some (0, true), .mov (.r 6)⟩,
    ⟨some (1, true), .bin .eql (.l 0) (.v (.c (.d (.str []))))⟩,
    ⟨none, .pick (.l 2) (.l 0) (.v (.c (.d (.bool false))))⟩,
    ⟨none, .mov (.l 0)⟩,
    ⟨some (0, true), .mov (.r 8)⟩,
    ⟨some (1, true), .bin .eql (.l 0) (.v (.c (.d (.int .i64 0))))⟩,
    ⟨none, .pick (.l 2) (.l 0) (.v (.c (.d (.bool false))))⟩,
    ⟨none, .mov (.l 0)⟩,
    ⟨some (0, true), .mov (.r 9)⟩,
    ⟨some (1, true), .bin .eql (.l 0) (.v (.c (.d (.int .i64 0))))⟩,
    ⟨none, .pick (.l 2) (.l 0) (.v (.c (.d (.bool false))))⟩,
    ⟨none, .mov (.l 0)⟩,
    ⟨some (0, true), .vc 13 []⟩,
    ⟨none, .pick (.l 1) (.l 0) (.v (.c (.d (.bool false))))⟩,
    ⟨none, .mov (.l 0)⟩] [(2, 0)] []) (
  .ret)) (
  .skip))) (
  .seq (.reg false [⟨none, .mov (.r 5)⟩,
    ⟨none, .bin .eql (.l 0) (.v (.c (.d (.int .i64 0))))⟩,
    ⟨none, .mov (.l 0)⟩,
    ⟨some (0, true), .mov (.r 7)⟩,
    ⟨some (1, true), .bin .eql (.l 0) (.v (.c (.d (.int .i64 0))))⟩,
    ⟨none, .pick (.l 2) (.l 0) (.v (.c (.d (.bool false))))⟩,
    ⟨none, .mov (.l 0)⟩,
    ⟨some (0, true), .mov (.r 10)⟩,
    ⟨some (1, true), .bin .eql (.l 0) (.v (.c (.d (.int .i64 0))))⟩,
    ⟨none, .pick (.l 2) (.l 0) (.v (.c (.d (.bool false))))⟩,
    ⟨none, .mov (.l 0)⟩,
    ⟨some (0, true), .mov (.r 3)⟩,
    ⟨some (1, true), .mov (.r 0)⟩,
    ⟨some (2, true), .mov (.r 1)⟩,
    ⟨some (3, true), .vc 15 [(.l 1), (.l 0)]⟩,
    ⟨some (4, true), .vc 14 [(.l 3), (.l 0)]⟩,
    ⟨some (5, true), .bin .eql (.l 0) (.v (.c (.d (.int .i64 1))))⟩,
    ⟨none, .pick (.l 6) (.l 0) (.v (.c (.d (.bool false))))⟩,
    ⟨none, .mov (.l 0)⟩,
    ⟨some (0, true), .ld true 4 (.r 4)⟩,
    ⟨some (1, true), .vc 16 [(.l 0)]⟩,
    ⟨some (2, true), .bin .eql (.l 0) (.v (.c (.d (.int .i64 1))))⟩,
    ⟨none, .pick (.l 3) (.l 0) (.v (.c (.d (.bool false))))⟩,
    ⟨none, .mov (.l 0)⟩,
    ⟨some (0, true), .mov (.r 3)⟩,
    ⟨some (1, true), .cap (.l 0)⟩,
    ⟨some (2, true), .mov (.r 3)⟩,
    ⟨some (3, true), .len (.l 0)⟩,
    ⟨some (4, true), .bin .eql (.l 2) (.l 0)⟩,
    ⟨none, .pick (.l 5) (.l 0) (.v (.c (.d (.bool false))))⟩,
    ⟨none, .mov (.l 0)⟩,
    ⟨some (0, true), .vc 13 []⟩,
    ⟨none, .pick (.l 1) (.l 0) (.v (.c (.d (.bool false))))⟩,
    ⟨none, .mov (.l 0)⟩] [(2, 0)] []) (
  .ret))))))⟩

/-- vidimus/vidimuslaw35.FamiliesLong -/
def fn4 : Fn := ⟨1, 13, [0, 1, 2, 3, 4, 5, 6, 7, 8, 9, 10, 60, 116], [.r 2],
  .seq (.reg false [⟨none, .box (.r 0)⟩,
    ⟨none, .mov (.v (.c (.d (.bool false))))⟩] [(1, 1), (2, 0)] []) (
  .seq (.reg false [⟨none, .ixp 4 1 (.r 1) (.v (.c (.d (.int .i64 0))))⟩,
    ⟨none, .ld false 1 (.l 0)⟩,
    ⟨none, .ixp 4 1 (.r 1) (.v (.c (.d (.int .i64 1))))⟩,
    ⟨none, .ld false 1 (.l 0)⟩,
    ⟨none, .ixp 4 1 (.r 1) (.v (.c (.d (.int .i64 2))))⟩,
    ⟨none, .ld false 1 (.l 0)⟩,
    ⟨none, .hc (.v (.c (.d (.fn 17 [] [])))) [(.l 4), (.l 2), (.l 0)]⟩,
    ⟨none, .mov (.l 0)⟩,
    ⟨none, .ext (.l 0) 0⟩,
    ⟨none, .ext (.l 1) 1⟩,
    ⟨none, .ext (.l 2) 2⟩,
    ⟨none, .pre⟩,
    ⟨none, .mov (.l 3)⟩,
    ⟨none, .ini 4 (.l 3)⟩,
    ⟨none, .mov (.l 3)⟩] [(3, 2), (4, 1), (5, 0)] []) (
  .seq (.reg false [⟨none, .ixp 4 1 (.r 1) (.v (.c (.d (.int .i64 0))))⟩,
    ⟨none, .ld false 1 (.l 0)⟩,
    ⟨none, .ixp 4 1 (.r 1) (.v (.c (.d (.int .i64 1))))⟩,
    ⟨none, .ld false 1 (.l 0)⟩,
    ⟨none, .ixp 4 1 (.r 1) (.v (.c (.d (.int .i64 2))))⟩,
    ⟨none, .ld false 1 (.l 0)⟩,
    ⟨none, .vc 18 [(.l 4), (.l 2), (.l 0)]⟩,
    ⟨none, .mov (.l 0)⟩,
    ⟨none, .ext (.l 0) 0⟩,
    ⟨none, .ext (.l 1) 1⟩,
    ⟨none, .ext (.l 2) 2⟩,
    ⟨none, .mov (.l 2)⟩,
    ⟨none, .mov (.l 2)⟩,
    ⟨none, .mov (.l 2)⟩] [(6, 2), (7, 1), (8, 0)] []) (
  .seq (.reg false [⟨none, .ixp 4 1 (.r 1) (.v (.c (.d (.int .i64 0))))⟩,
    ⟨none, .ld false 1 (.l 0)⟩,
    ⟨none, .ixp 4 1 (.r 1) (.v (.c (.d (.int .i64 1))))⟩,
    ⟨none, .ld false 1 (.l 0)⟩,
    ⟨none, .ixp 4 1 (.r 1) (.v (.c (.d (.int .i64 2))))⟩,
    ⟨none, .ld false 1 (.l 0)⟩,
    ⟨none, .ixp 4 1 (.r 1) (.v (.c (.d (.int .i64 3))))⟩,
    ⟨none, .ld false 1 (.l 0)⟩,
    ⟨none, .vc 19 [(.l 6), (.l 4), (.l 2), (.l 0)]⟩,
    ⟨none, .mov (.l 0)⟩,
    ⟨none, .ext (.l 0) 0⟩,
    ⟨none, .ext (.l 1) 1⟩,
    ⟨none, .mov (.l 1)⟩,
    ⟨none, .mov (.l 1)⟩] [(9, 1), (10, 0)] []) (
  .seq (.seq (.reg false [⟨none, .ixp 4 1 (.r 1) (.v (.c (.d (.int .i64 0))))⟩,
    ⟨none, .ld false 1 (.l 0)⟩,
    ⟨none, .vc 12 [(.l 0), (.v (.c (.d (.int .i64 1)))), (.v (.c (.d (.int .i64 64))))]⟩,
    ⟨none, .un .not (.l 0)⟩,
    ⟨none, .mov (.l 0)⟩,
    ⟨some (0, false), .ixp 4 1 (.r 1) (.v (.c (.d (.int .i64 1))))⟩,
    ⟨some (1, false), .ld false 1 (.l 0)⟩,
    ⟨some (2, false), .vc 12 [(.l 0), (.v (.c (.d (.int .i64 0)))), (.v (.c (.d (.int .i64 63))))]⟩,
    ⟨some (3, false), .un .not (.l 0)⟩,
    ⟨none, .pick (.l 4) (.v (.c (.d (.bool true)))) (.l 0)⟩,
    ⟨none, .mov (.l 0)⟩,
    ⟨some (0, false), .ixp 4 1 (.r 1) (.v (.c (.d (.int .i64 2))))⟩,
    ⟨some (1, false), .ld false 1 (.l 0)⟩,
    ⟨some (2, false), .vc 12 [(.l 0), (.v (.c (.d (.int .i64 0)))), (.v (.c (.d (.int .i64 64))))]⟩,
    ⟨some (3, false), .un .not (.l 0)⟩,
    ⟨none, .pick (.l 4) (.v (.c (.d (.bool true)))) (.l 0)⟩] [(11, 0)] []) (
  .cond (.r 11) (
  .seq (.reg false [⟨none, .mov (.r 5)⟩,
    ⟨none, .bin .eql (.l 0) (.v (.c (.d (.int .i64 1))))⟩,
    ⟨none, .mov (.l 0)⟩,
    ⟨some (0, true), .mov (.r 8)⟩,
    ⟨some (1, true), .bin .eql (.l 0) (.v (.c (.d (.int .i64 1))))⟩,
    ⟨none, .pick (.l 2) (.l 0) (.v (.c (.d (.bool false))))⟩,
    ⟨none, .mov (.l 0)⟩,
    ⟨some (0, true), .mov (.r 10)⟩,
    ⟨some (1, true), .bin .eql (.l 0) (.v (.c (.d (.int .i64 1))))⟩,
    ⟨none, .pick (.l 2) (.l 0) (.v (.c (.d (.bool false))))⟩,
    ⟨none, .mov (.l 0)⟩,
    ⟨some (0, true), .mov (.r 3)⟩,
    ⟨some (1, true), .len (.l 0)⟩,
    ⟨some (2, true), .bin .eql (.l 0) (.v (.c (.d (.int .i64 0))))⟩,
    ⟨none, .pick (.l 3) (.l 0) (.v (.c (.d (.bool false))))⟩,
    ⟨none, .mov (.l 0)⟩,
    ⟨some (0, true), .fa 0 (.r 4)⟩,
    ⟨some (1, true), .ld false 1 (.l 0)⟩,
    ⟨some (2, true), .len (.l 0)⟩,
    ⟨some (3, true), .bin .eql (.l 0) (.v (.c (.d (.int .i64 0))))⟩,
    ⟨none, .pick (.l 4) (.l 0) (.v (.c (.d (.bool false))))⟩,
    ⟨none, .mov (.l 0)⟩,
    ⟨some (0, true), .mov (.r 6)⟩,
    ⟨some (1, true), .bin .eql (.l 0) (.v (.c (.d (.int .i64 0))))⟩,
    ⟨none, .pick (.l 2) (.l 0) (.v (.c (.d (.bool false))))⟩,
    ⟨none, .mov (.l 0)⟩,
    ⟨some (0, true), .mov (.r 7)⟩,
    ⟨some (1, true), .bin .eql (.l 0) (.v (.c (.d (.int .i64 0))))⟩,
    ⟨none, .pick (.l 2) (.l 0) (.v (.c (.d (.bool false))))⟩,
    ⟨none, .mov (.l 0)⟩,
    ⟨some (0, true), .mov (.r 9)⟩,
    ⟨some (1, true), .bin .eql (.l 0) (.v (.c (.d (.int .i64 0))))⟩,
    ⟨none, .pick (.l 2) (.l 0) (.v (.c (.d (.bool false))))⟩,
    ⟨none, .mov (.l 0)⟩,
    ⟨some (0, true), .vc 13 []⟩,
    ⟨none, .pick (.l 1) (.l 0) (.v (.c (.d (.bool false))))⟩,
    ⟨none, .mov (.l 0)⟩] [(2, 0)] []) (
  .ret)) (
  .skip))) (
  .seq (.seq (.reg false [⟨none, .mov (.r 10)⟩,
    ⟨none, .bin .eql (.l 0) (.v (.c (.d (.int .i64 0))))⟩,
    ⟨none, .ixp 4 1 (.r 1) (.v (.c (.d (.int .i64 3))))⟩,
    ⟨none, .ld false 1 (.l 0)⟩,
    ⟨none, .ixp 4 1 (.r 1) (.v (.c (.d (.int .i64 0))))⟩,
    ⟨none, .ld false 1 (.l 0)⟩,
    ⟨none, .vc 12 [(.l 2), (.v (.c (.d (.int .i64 0)))), (.l 0)]⟩,
    ⟨none, .beq true (.l 5) (.l 0)⟩,
    ⟨none, .mov (.l 0)⟩,
    ⟨some (0, false), .mov (.r 10)⟩,
    ⟨some (1, false), .bin .neq (.l 0) (.v (.c (.d (.int .i64 0))))⟩,
    ⟨some (2, false), .mov (.l 0)⟩,
    ⟨some (0, true), .mov (.r 10)⟩,
    ⟨some (1, true), .bin .neq (.l 0) (.v (.c (.d (.int .i64 1))))⟩,
    ⟨some (2, true), .mov (.l 0)⟩,
    ⟨some (0, false), .mov (.r 9)⟩,
    ⟨some (1, false), .bin .neq (.l 0) (.v (.c (.d (.int .i64 0))))⟩,
    ⟨some (5, true), .pick (.l 2) (.v (.c (.d (.bool true)))) (.l 0)⟩,
    ⟨some (9, false), .pick (.l 6) (.l 0) (.v (.c (.d (.bool false))))⟩,
    ⟨none, .pick (.l 10) (.v (.c (.d (.bool true)))) (.l 0)⟩] [(12, 0)] []) (
  .cond (.r 12) (
  .seq (.reg false [⟨none, .mov (.v (.c (.d (.bool false))))⟩] [(2, 0)] []) (
  .ret)) (
  .skip))) (
  .seq (.reg false [⟨none, .mov (.r 5)⟩,
    ⟨none, .bin .eql (.l 0) (.v (.c (.d (.int .i64 0))))⟩,
    ⟨none, .mov (.l 0)⟩,
    ⟨some (0, true), .mov (.r 8)⟩,
    ⟨some (1, true), .bin .eql (.l 0) (.v (.c (.d (.int .i64 0))))⟩,
    ⟨none, .pick (.l 2) (.l 0) (.v (.c (.d (.bool false))))⟩,
    ⟨none, .mov (.l 0)⟩,
    ⟨some (0, true), .mov (.r 3)⟩,
    ⟨some (1, true), .ixp 4 1 (.r 1) (.v (.c (.d (.int .i64 0))))⟩,
    ⟨some (2, true), .ld false 1 (.l 0)⟩,
    ⟨some (3, true), .ixp 4 1 (.r 1) (.v (.c (.d (.int .i64 1))))⟩,
    ⟨some (4, true), .ld false 1 (.l 0)⟩,
    ⟨some (5, true), .ixp 4 1 (.r 1) (.v (.c (.d (.int .i64 2))))⟩,
    ⟨some (6, true), .ld false 1 (.l 0)⟩,
    ⟨some (7, true), .vc 20 [(.l 4), (.l 2), (.l 0)]⟩,
    ⟨some (8, true), .vc 14 [(.l 7), (.l 0)]⟩,
    ⟨some (9, true), .bin .eql (.l 0) (.v (.c (.d (.int .i64 1))))⟩,
    ⟨none, .pick (.l 10) (.l 0) (.v (.c (.d (.bool false))))⟩,
    ⟨none, .mov (.l 0)⟩,
    ⟨some (0, true), .ld true 4 (.r 4)⟩,
    ⟨some (1, true), .vc 16 [(.l 0)]⟩,
    ⟨some (2, true), .bin .eql (.l 0) (.v (.c (.d (.int .i64 1))))⟩,
    ⟨none, .pick (.l 3) (.l 0) (.v (.c (.d (.bool false))))⟩,
    ⟨none, .mov (.l 0)⟩,
    ⟨some (0, true), .mov (.r 3)⟩,
    ⟨some (1, true), .cap (.l 0)⟩,
    ⟨some (2, true), .mov (.r 3)⟩,
    ⟨some (3, true), .len (.l 0)⟩,
    ⟨some (4, true), .bin .eql (.l 2) (.l 0)⟩,
    ⟨none, .pick (.l 5) (.l 0) (.v (.c (.d (.bool false))))⟩,
    ⟨none, .mov (.l 0)⟩,
    ⟨some (0, true), .vc 13 []⟩,
    ⟨none, .pick (.l 1) (.l 0) (.v (.c (.d (.bool false))))⟩,
    ⟨none, .mov (.l 0)⟩] [(2, 0)] []) (
  .ret)))))))⟩

/-- vidimus/vidimuslaw35.FamiliesLevels -/
def fn5 : Fn := ⟨3, 18, [0, 1, 2, 6, 7, 8, 9, 10, 11, 12, 13, 14, 15, 16, 17, 18, 49, 80], [.r 3],
  .seq (.reg false [⟨none, .mov (.v (.c (.d (.bool false))))⟩] [(3, 0)] []) (
  .seq (.reg false [⟨none, .mov (.r 0)⟩,
    ⟨none, .bin .rem (.l 0) (.v (.c (.d (.int .u8 5))))⟩,
    ⟨none, .cvi .i64 (.l 0)⟩,
    ⟨none, .bin .add (.v (.c (.d (.int .i64 1)))) (.l 0)⟩,
    ⟨none, .mov (.r 1)⟩,
    ⟨none, .bin .rem (.l 0) (.v (.c (.d (.int .u8 4))))⟩,
    ⟨none, .cvi .i64 (.l 0)⟩,
    ⟨none, .mov (.r 2)⟩,
    ⟨none, .bin .rem (.l 0) (.v (.c (.d (.int .u8 4))))⟩,
    ⟨none, .cvi .i64 (.l 0)⟩,
    ⟨none, .mov (.l 6)⟩,
    ⟨none, .mov (.l 4)⟩,
    ⟨none, .mov (.l 2)⟩] [(4, 2), (5, 1), (6, 0)] []) (
  .seq (.reg false [⟨none, .mov (.r 4)⟩,
    ⟨none, .mov (.r 5)⟩,
    ⟨none, .mov (.r 6)⟩,
    ⟨none, .vc 20 [(.l 2), (.l 1), (.l 0)]⟩,
    ⟨none, .vc 22 []⟩,
    ⟨none, .vc 21 [(.l 1), (.l 0)]⟩,
    ⟨none, .mov (.l 0)⟩,
    ⟨none, .ext (.l 0) 0⟩,
    ⟨none, .ext (.l 1) 1⟩,
    ⟨none, .mov (.l 1)⟩,
    ⟨none, .mov (.l 1)⟩] [(7, 1), (8, 0)] []) (
  .seq (.reg false [⟨none, .mov (.r 4)⟩,
    ⟨none, .mov (.r 5)⟩,
    ⟨none, .mov (.r 6)⟩,
    ⟨none, .vc 18 [(.l 2), (.l 1), (.l 0)]⟩,
    ⟨none, .mov (.l 0)⟩,
    ⟨none, .ext (.l 0) 0⟩,
    ⟨none, .ext (.l 1) 1⟩,
    ⟨none, .ext (.l 2) 2⟩,
    ⟨none, .mov (.l 2)⟩,
    ⟨none, .mov (.l 2)⟩,
    ⟨none, .mov (.l 2)⟩] [(9, 2), (10, 1), (11, 0)] []) (
  .seq (.reg false [⟨none, .mov (.v (.c (.d (.int .i64 0))))⟩] [(12, 0)] []) (
  .seq (.seq (.reg false [⟨none, .mov (.v (.c (.d (.int .i64 0))))⟩] [(13, 0)] []) (
  .block 0 (
  .loop (some [4, 5, 6, 7, 8, 9, 10, 11, 12, 13]) (
  .seq (.seq (.reg false [⟨none, .mov (.r 13)⟩,
    ⟨none, .mov (.r 7)⟩,
    ⟨none, .len (.l 0)⟩,
    ⟨none, .bin .lss (.l 2) (.l 0)⟩] [(16, 0)] []) (
  .cond (.r 16) (
  .skip) (
  .exit 0))) (
  .seq (.block 1 (
  .seq (.reg false [⟨none, .mov (.r 4)⟩,
    ⟨none, .mov (.r 5)⟩,
    ⟨none, .mov (.r 6)⟩,
    ⟨none, .mov (.r 13)⟩,
    ⟨none, .vc 19 [(.l 3), (.l 2), (.l 1), (.l 0)]⟩,
    ⟨none, .mov (.l 0)⟩,
    ⟨none, .ext (.l 0) 0⟩,
    ⟨none, .ext (.l 1) 1⟩,
    ⟨none, .mov (.l 1)⟩,
    ⟨none, .mov (.l 1)⟩] [(14, 1), (15, 0)] []) (
  .seq (.seq (.reg false [⟨none, .mov (.r 15)⟩,
    ⟨none, .bin .neq (.l 0) (.v (.c (.d (.int .i64 0))))⟩,
    ⟨none, .mov (.l 0)⟩,
    ⟨some (0, false), .mov (.r 14)⟩,
    ⟨some (1, false), .mov (.r 7)⟩,
    ⟨some (2, false), .mov (.r 13)⟩,
    ⟨some (3, false), .ixa 1 (.l 1) (.l 0)⟩,
    ⟨some (4, false), .ld false 1 (.l 0)⟩,
    ⟨some (5, false), .bin .neq (.l 4) (.l 0)⟩,
    ⟨none, .pick (.l 6) (.v (.c (.d (.bool true)))) (.l 0)⟩,
    ⟨none, .mov (.l 0)⟩,
    ⟨some (0, false), .mov (.r 14)⟩,
    ⟨some (1, false), .mov (.r 13)⟩,
    ⟨some (2, false), .mov (.r 5)⟩,
    ⟨some (3, false), .bin .add (.l 0) (.v (.c (.d (.int .i64 1))))⟩,
    ⟨some (4, false), .mov (.r 6)⟩,
    ⟨some (5, false), .bin .add (.l 1) (.l 0)⟩,
    ⟨some (6, false), .bin .mul (.l 4) (.l 0)⟩,
    ⟨some (7, false), .bin .add (.l 0) (.v (.c (.d (.int .i64 1))))⟩,
    ⟨some (8, false), .bin .gtr (.l 7) (.l 0)⟩,
    ⟨none, .pick (.l 9) (.v (.c (.d (.bool true)))) (.l 0)⟩] [(17, 0)] []) (
  .cond (.r 17) (
  .seq (.reg false [⟨none, .mov (.v (.c (.d (.bool false))))⟩] [(3, 0)] []) (
  .ret)) (
  .skip))) (
  .reg false [⟨none, .mov (.r 12)⟩,
    ⟨none, .mov (.r 7)⟩,
    ⟨none, .mov (.r 13)⟩,
    ⟨none, .ixa 1 (.l 1) (.l 0)⟩,
    ⟨none, .ld false 1 (.l 0)⟩,
    ⟨none, .bin .add (.l 4) (.l 0)⟩,
    ⟨none, .mov (.l 0)⟩] [(12, 0)] [])))) (
  .reg false [⟨none, .mov (.r 13)⟩,
    ⟨none, .bin .add (.l 0) (.v (.c (.d (.int .i64 1))))⟩,
    ⟨none, .mov (.l 0)⟩] [(13, 0)] [])))))) (
  .seq (.reg false [⟨none, .mov (.r 11)⟩,
    ⟨none, .bin .eql (.l 0) (.v (.c (.d (.int .i64 0))))⟩,
    ⟨none, .mov (.l 0)⟩,
    ⟨some (0, true), .mov (.r 7)⟩,
    ⟨some (1, true), .len (.l 0)⟩,
    ⟨some (2, true), .mov (.r 4)⟩,
    ⟨some (3, true), .bin .add (.l 0) (.v (.c (.d (.int .i64 1))))⟩,
    ⟨some (4, true), .bin .eql (.l 2) (.l 0)⟩,
    ⟨none, .pick (.l 5) (.l 0) (.v (.c (.d (.bool false))))⟩,
    ⟨none, .mov (.l 0)⟩,
    ⟨some (0, true), .mov (.r 9)⟩,
    ⟨some (1, true), .mov (.r 12)⟩,
    ⟨some (2, true), .bin .eql (.l 1) (.l 0)⟩,
    ⟨none, .pick (.l 3) (.l 0) (.v (.c (.d (.bool false))))⟩,
    ⟨none, .mov (.l 0)⟩,
    ⟨some (0, true), .mov (.r 10)⟩,
    ⟨some (1, true), .mov (.r 8)⟩,
    ⟨some (2, true), .bin .eql (.l 1) (.l 0)⟩,
    ⟨none, .pick (.l 3) (.l 0) (.v (.c (.d (.bool false))))⟩,
    ⟨none, .mov (.l 0)⟩,
    ⟨some (0, true), .vc 13 []⟩,
    ⟨none, .pick (.l 1) (.l 0) (.v (.c (.d (.bool false))))⟩,
    ⟨none, .mov (.l 0)⟩] [(3, 0)] []) (
  .ret)))))))⟩

/-- vidimus/vidimuslaw35.FamiliesSizes -/
def fn6 : Fn := ⟨2, 11, [0, 1, 4, 5, 6, 7, 8, 9, 10, 11, 22], [.r 2],
  .seq (.reg false [⟨none, .mov (.v (.c (.d (.bool false))))⟩] [(2, 0)] []) (
  .seq (.reg false [⟨none, .mov (.r 0)⟩,
    ⟨none, .bin .rem (.l 0) (.v (.c (.d (.int .u8 64))))⟩,
    ⟨none, .cvi .i64 (.l 0)⟩,
    ⟨none, .bin .add (.v (.c (.d (.int .i64 1)))) (.l 0)⟩,
    ⟨none, .mov (.r 1)⟩,
    ⟨none, .bin .rem (.l 0) (.v (.c (.d (.int .u8 8))))⟩,
    ⟨none, .cvi .i64 (.l 0)⟩,
    ⟨none, .bin .add (.v (.c (.d (.int .i64 1)))) (.l 0)⟩,
    ⟨none, .mov (.l 4)⟩,
    ⟨none, .mov (.l 1)⟩] [(3, 1), (4, 0)] []) (
  .seq (.reg false [⟨none, .mov (.v (.c (.d (.str [49]))))⟩,
    ⟨none, .mov (.v (.c (.d (.str [49]))))⟩] [(5, 1), (6, 0)] []) (
  .seq (.seq (.reg false [⟨none, .mov (.v (.c (.d (.int .i64 1))))⟩] [(7, 0)] []) (
  .block 0 (
  .loop (some [3, 4, 5, 6, 7]) (
  .seq (.seq (.reg false [⟨none, .mov (.r 7)⟩,
    ⟨none, .mov (.r 3)⟩,
    ⟨none, .bin .leq (.l 1) (.l 0)⟩] [(10, 0)] []) (
  .cond (.r 10) (
  .skip) (
  .exit 0))) (
  .seq (.block 1 (
  .seq (.reg false [⟨none, .mov (.r 5)⟩,
    ⟨none, .mov (.r 4)⟩,
    ⟨none, .vc 23 [(.l 1), (.l 0), (.v (.c (.d (.int .i64 1))))]⟩,
    ⟨none, .mov (.l 0)⟩] [(5, 0)] []) (
  .reg false [⟨none, .mov (.r 6)⟩,
    ⟨none, .vc 23 [(.l 0), (.v (.c (.d (.int .i64 2)))), (.v (.c (.d (.int .i64 0))))]⟩,
    ⟨none, .mov (.l 0)⟩] [(6, 0)] []))) (
  .reg false [⟨none, .mov (.r 7)⟩,
    ⟨none, .bin .add (.l 0) (.v (.c (.d (.int .i64 1))))⟩,
    ⟨none, .mov (.l 0)⟩] [(7, 0)] [])))))) (
  .seq (.reg false [⟨none, .mov (.r 3)⟩,
    ⟨none, .mov (.r 4)⟩,
    ⟨none, .vc 10 [(.l 1), (.l 0)]⟩,
    ⟨none, .mov (.l 0)⟩,
    ⟨none, .ext (.l 0) 0⟩,
    ⟨none, .ext (.l 1) 1⟩,
    ⟨none, .mov (.l 1)⟩,
    ⟨none, .mov (.l 1)⟩] [(8, 1), (9, 0)] []) (
  .seq (.reg false [⟨none, .mov (.r 9)⟩,
    ⟨none, .bin .eql (.l 0) (.v (.c (.d (.int .i64 0))))⟩,
    ⟨none, .mov (.l 0)⟩,
    ⟨some (0, true), .mov (.r 8)⟩,
    ⟨some (1, true), .mov (.r 5)⟩,
    ⟨some (2, true), .bin .eql (.l 1) (.l 0)⟩,
    ⟨none, .pick (.l 3) (.l 0) (.v (.c (.d (.bool false))))⟩,
    ⟨none, .mov (.l 0)⟩,
    ⟨some (0, true), .mov (.r 4)⟩,
    ⟨some (1, true), .bin .eql (.l 0) (.v (.c (.d (.int .i64 1))))⟩,
    ⟨some (2, true), .mov (.l 0)⟩,
    ⟨some (0, false), .mov (.r 8)⟩,
    ⟨some (1, false), .mov (.r 6)⟩,
    ⟨some (2, false), .vc 24 [(.l 1), (.l 0)]⟩,
    ⟨some (6, true), .pick (.l 3) (.v (.c (.d (.bool true)))) (.l 0)⟩,
    ⟨none, .pick (.l 7) (.l 0) (.v (.c (.d (.bool false))))⟩,
    ⟨none, .mov (.l 0)⟩,
    ⟨some (0, true), .vc 13 []⟩,
    ⟨none, .pick (.l 1) (.l 0) (.v (.c (.d (.bool false))))⟩,
    ⟨none, .mov (.l 0)⟩] [(2, 0)] []) (
  .ret))))))⟩

/-- vidimus/vidimuslaw35.FamiliesKnown -/
def fn7 : Fn := ⟨0, 19, [0, 1, 2, 3, 4, 5, 6, 7, 8, 10, 11, 13, 14, 15, 16, 17, 19, 20, 95], [.r 0],
  .seq (.reg false [⟨none, .mov (.v (.c (.d (.bool false))))⟩] [(0, 0)] []) (
  .seq (.reg false [⟨none, .vc 10 [(.v (.c (.d (.int .i64 1)))), (.v (.c (.d (.int .i64 8))))]⟩,
    ⟨none, .mov (.l 0)⟩,
    ⟨none, .ext (.l 0) 0⟩,
    ⟨none, .ext (.l 1) 1⟩,
    ⟨none, .mov (.l 1)⟩,
    ⟨none, .mov (.l 1)⟩] [(1, 1), (2, 0)] []) (
  .seq (.reg false [⟨none, .vc 10 [(.v (.c (.d (.int .i64 20)))), (.v (.c (.d (.int .i64 8))))]⟩,
    ⟨none, .mov (.l 0)⟩,
    ⟨none, .ext (.l 0) 0⟩,
    ⟨none, .ext (.l 1) 1⟩,
    ⟨none, .mov (.l 1)⟩,
    ⟨none, .mov (.l 1)⟩] [(3, 1), (4, 0)] []) (
  .seq (.reg false [⟨none, .vc 11 [(.v (.c (.d (.int .i64 64)))), (.v (.c (.d (.int .i64 8))))]⟩,
    ⟨none, .mov (.l 0)⟩,
    ⟨none, .ext (.l 0) 0⟩,
    ⟨none, .ext (.l 1) 1⟩,
    ⟨none, .ext (.l 2) 2⟩,
    ⟨none, .mov (.l 2)⟩,
    ⟨none, .mov (.l 2)⟩,
    ⟨none, .mov (.l 2)⟩] [(5, 2), (6, 1), (7, 0)] []) (
  .seq (.reg false [⟨none, .vc 9 [(.v (.c (.d (.int .i64 64)))), (.v (.c (.d (.int .i64 8))))]⟩,
    ⟨none, .mov (.l 0)⟩,
    ⟨none, .ext (.l 0) 0⟩,
    ⟨none, .ext (.l 1) 1⟩,
    ⟨none, .ext (.l 2) 2⟩,
    ⟨none, .pre⟩,
    ⟨none, .mov (.l 3)⟩,
    ⟨none, .ini 4 (.l 3)⟩,
    ⟨none, .mov (.l 3)⟩] [(8, 2), (9, 0)] []) (
  .seq (.reg false [⟨none, .vc 17 [(.v (.c (.d (.int .i64 64)))), (.v (.c (.d (.int .i64 63)))), (.v (.c (.d (.int .i64 64))))]⟩,
    ⟨none, .mov (.l 0)⟩,
    ⟨none, .ext (.l 0) 0⟩,
    ⟨none, .ext (.l 1) 1⟩,
    ⟨none, .ext (.l 2) 2⟩,
    ⟨none, .pre⟩,
    ⟨none, .mov (.l 3)⟩,
    ⟨none, .ini 4 (.l 3)⟩,
    ⟨none, .mov (.l 3)⟩] [(10, 2), (11, 0)] []) (
  .seq (.reg false [⟨none, .vc 18 [(.v (.c (.d (.int .i64 64)))), (.v (.c (.d (.int .i64 63)))), (.v (.c (.d (.int .i64 64))))]⟩,
    ⟨none, .mov (.l 0)⟩,
    ⟨none, .ext (.l 0) 0⟩,
    ⟨none, .ext (.l 1) 1⟩,
    ⟨none, .ext (.l 2) 2⟩,
    ⟨none, .mov (.l 2)⟩,
    ⟨none, .mov (.l 2)⟩,
    ⟨none, .mov (.l 2)⟩] [(12, 2), (13, 1), (14, 0)] []) (
  .seq (.reg false [⟨none, .vc 17 [(.v (.c (.d (.int .i64 1)))), (.v (.c (.d (.int .i64 0)))), (.v (.c (.d (.int .i64 0))))]⟩,
    ⟨none, .mov (.l 0)⟩,
    ⟨none, .ext (.l 0) 0⟩,
    ⟨none, .ext (.l 1) 1⟩,
    ⟨none, .ext (.l 2) 2⟩,
    ⟨none, .pre⟩,
    ⟨none, .mov (.l 3)⟩,
    ⟨none, .ini 4 (.l 3)⟩,
    ⟨none, .mov (.l 3)⟩] [(15, 2), (16, 0)] []) (
  .seq (.seq (.reg false [⟨none, .mov (.r 2)⟩,
    ⟨none, .bin .neq (.l 0) (.v (.c (.d (.int .i64 0))))⟩,
    ⟨none, .mov (.l 0)⟩,
    ⟨some (0, false), .mov (.r 4)⟩,
    ⟨some (1, false), .bin .neq (.l 0) (.v (.c (.d (.int .i64 0))))⟩,
    ⟨none, .pick (.l 2) (.v (.c (.d (.bool true)))) (.l 0)⟩,
    ⟨none, .mov (.l 0)⟩,
    ⟨some (0, false), .mov (.r 7)⟩,
    ⟨some (1, false), .bin .neq (.l 0) (.v (.c (.d (.int .i64 0))))⟩,
    ⟨none, .pick (.l 2) (.v (.c (.d (.bool true)))) (.l 0)⟩,
    ⟨none, .mov (.l 0)⟩,
    ⟨some (0, false), .mov (.r 9)⟩,
    ⟨some (1, false), .bin .neq (.l 0) (.v (.c (.d (.int .i64 0))))⟩,
    ⟨none, .pick (.l 2) (.v (.c (.d (.bool true)))) (.l 0)⟩,
    ⟨none, .mov (.l 0)⟩,
    ⟨some (0, false), .mov (.r 11)⟩,
    ⟨some (1, false), .bin .neq (.l 0) (.v (.c (.d (.int .i64 0))))⟩,
    ⟨none, .pick (.l 2) (.v (.c (.d (.bool true)))) (.l 0)⟩,
    ⟨none, .mov (.l 0)⟩,
    ⟨some (0, false), .mov (.r 14)⟩,
    ⟨some (1, false), .bin .neq (.l 0) (.v (.c (.d (.int .i64 0))))⟩,
    ⟨none, .pick (.l 2) (.v (.c (.d (.bool true)))) (.l 0)⟩,
    ⟨none, .mov (.l 0)⟩,
    ⟨some (0, false), .mov (.r 16)⟩,
    ⟨some (1, false), .bin .neq (.l 0) (.v (.c (.d (.int .i64 0))))⟩,
    ⟨none, .pick (.l 2) (.v (.c (.d (.bool true)))) (.l 0)⟩,
    ⟨none, .mov (.l 0)⟩,
    ⟨some (0, false), .mov (.r 1)⟩,
    ⟨some (1, false), .bin .neq (.l 0) (.v (.c (.d (.str [57]))))⟩,
    ⟨none, .pick (.l 2) (.v (.c (.d (.bool true)))) (.l 0)⟩,
    ⟨none, .mov (.l 0)⟩,
    ⟨some (0, false), .mov (.r 3)⟩,
    ⟨some (1, false), .bin .neq (.l 0) (.v (.c (.d (.str [49, 51, 49, 55, 54, 50, 52, 53, 55, 54, 54, 57, 51, 53, 51, 57, 52, 48, 49]))))⟩,
    ⟨none, .pick (.l 2) (.v (.c (.d (.bool true)))) (.l 0)⟩,
    ⟨none, .mov (.l 0)⟩,
    ⟨some (0, false), .mov (.r 5)⟩,
    ⟨some (1, false), .bin .neq (.l 0) (.v (.c (.d (.int .i64 513))))⟩,
    ⟨none, .pick (.l 2) (.v (.c (.d (.bool true)))) (.l 0)⟩,
    ⟨none, .mov (.l 0)⟩,
    ⟨some (0, false), .mov (.r 6)⟩,
    ⟨some (1, false), .bin .neq (.l 0) (.v (.c (.d (.int .i64 4040))))⟩,
    ⟨none, .pick (.l 2) (.v (.c (.d (.bool true)))) (.l 0)⟩] [(18, 0)] []) (
  .cond (.r 18) (
  .seq (.reg false [⟨none, .mov (.v (.c (.d (.bool false))))⟩] [(0, 0)] []) (
  .ret)) (
  .skip))) (
  .seq (.reg false [⟨none, .mov (.v (.c (.d (.int .i64 264161))))⟩] [(17, 0)] []) (
  .seq (.reg false [⟨none, .mov (.r 8)⟩,
    ⟨none, .len (.l 0)⟩,
    ⟨none, .bin .eql (.l 0) (.v (.c (.d (.int .i64 64))))⟩,
    ⟨none, .mov (.l 0)⟩,
    ⟨some (0, true), .mov (.r 8)⟩,
    ⟨some (1, true), .ixa 8 (.l 0) (.v (.c (.d (.int .i64 63))))⟩,
    ⟨some (2, true), .fa 4 (.l 0)⟩,
    ⟨some (3, true), .ld false 1 (.l 0)⟩,
    ⟨some (4, true), .len (.l 0)⟩,
    ⟨some (5, true), .bin .eql (.l 0) (.v (.c (.d (.int .i64 64))))⟩,
    ⟨none, .pick (.l 6) (.l 0) (.v (.c (.d (.bool false))))⟩,
    ⟨none, .mov (.l 0)⟩,
    ⟨some (0, true), .mov (.r 10)⟩,
    ⟨some (1, true), .len (.l 0)⟩,
    ⟨some (2, true), .bin .eql (.l 0) (.v (.c (.d (.int .i64 64))))⟩,
    ⟨none, .pick (.l 3) (.l 0) (.v (.c (.d (.bool false))))⟩,
    ⟨none, .mov (.l 0)⟩,
    ⟨some (0, true), .mov (.r 10)⟩,
    ⟨some (1, true), .ixa 8 (.l 0) (.v (.c (.d (.int .i64 63))))⟩,
    ⟨some (2, true), .fa 2 (.l 0)⟩,
    ⟨some (3, true), .ld false 1 (.l 0)⟩,
    ⟨some (4, true), .len (.l 0)⟩,
    ⟨some (5, true), .bin .eql (.l 0) (.v (.c (.d (.int .i64 64))))⟩,
    ⟨none, .pick (.l 6) (.l 0) (.v (.c (.d (.bool false))))⟩,
    ⟨none, .mov (.l 0)⟩,
    ⟨some (0, true), .mov (.r 10)⟩,
    ⟨some (1, true), .ixa 8 (.l 0) (.v (.c (.d (.int .i64 63))))⟩,
    ⟨some (2, true), .fa 4 (.l 0)⟩,
    ⟨some (3, true), .ld false 1 (.l 0)⟩,
    ⟨some (4, true), .len (.l 0)⟩,
    ⟨some (5, true), .bin .eql (.l 0) (.v (.c (.d (.int .i64 64))))⟩,
    ⟨none, .pick (.l 6) (.l 0) (.v (.c (.d (.bool false))))⟩,
    ⟨none, .mov (.l 0)⟩,
    ⟨some (0, true), .mov (.r 12)⟩,
    ⟨some (1, true), .mov (.r 17)⟩,
    ⟨some (2, true), .bin .eql (.l 1) (.l 0)⟩,
    ⟨none, .pick (.l 3) (.l 0) (.v (.c (.d (.bool false))))⟩,
    ⟨none, .mov (.l 0)⟩,
    ⟨some (0, true), .mov (.r 13)⟩,
    ⟨some (1, true), .mov (.r 17)⟩,
    ⟨some (2, true), .bin .sub (.l 0) (.v (.c (.d (.int .i64 1))))⟩,
    ⟨some (3, true), .bin .eql (.l 2) (.l 0)⟩,
    ⟨none, .pick (.l 4) (.l 0) (.v (.c (.d (.bool false))))⟩,
    ⟨none, .mov (.l 0)⟩,
    ⟨some (0, true), .mov (.r 15)⟩,
    ⟨some (1, true), .len (.l 0)⟩,
    ⟨some (2, true), .bin .eql (.l 0) (.v (.c (.d (.int .i64 1))))⟩,
    ⟨none, .pick (.l 3) (.l 0) (.v (.c (.d (.bool false))))⟩,
    ⟨none, .mov (.l 0)⟩,
    ⟨some (0, true), .mov (.r 15)⟩,
    ⟨some (1, true), .ixa 8 (.l 0) (.v (.c (.d (.int .i64 0))))⟩,
    ⟨some (2, true), .fa 3 (.l 0)⟩,
    ⟨some (3, true), .ld false 1 (.l 0)⟩,
    ⟨some (4, true), .un .not (.l 0)⟩,
    ⟨none, .pick (.l 5) (.l 0) (.v (.c (.d (.bool false))))⟩,
    ⟨none, .mov (.l 0)⟩,
    ⟨some (0, true), .mov (.r 15)⟩,
    ⟨some (1, true), .ixa 8 (.l 0) (.v (.c (.d (.int .i64 0))))⟩,
    ⟨some (2, true), .fa 2 (.l 0)⟩,
    ⟨some (3, true), .ld false 1 (.l 0)⟩,
    ⟨some (4, true), .len (.l 0)⟩,
    ⟨some (5, true), .bin .eql (.l 0) (.v (.c (.d (.int .i64 1))))⟩,
    ⟨none, .pick (.l 6) (.l 0) (.v (.c (.d (.bool false))))⟩,
    ⟨none, .mov (.l 0)⟩,
    ⟨some (0, true), .vc 13 []⟩,
    ⟨none, .pick (.l 1) (.l 0) (.v (.c (.d (.bool false))))⟩,
    ⟨none, .mov (.l 0)⟩] [(0, 0)] []) (
  .ret)))))))))))⟩

/-- vidimus/vidimuslaw35.FamiliesPolicy -/
def fn8 : Fn := ⟨2, 6, [0, 1, 4, 5, 6, 20], [.r 2],
  .seq (.reg false [⟨none, .mov (.v (.c (.d (.bool false))))⟩] [(2, 0)] []) (
  .seq (.reg false [⟨none, .mov (.r 0)⟩,
    ⟨none, .mov (.r 1)⟩,
    ⟨none, .vc 25 [(.l 1), (.l 0)]⟩,
    ⟨none, .mov (.l 0)⟩,
    ⟨none, .ext (.l 0) 0⟩,
    ⟨none, .ext (.l 1) 1⟩,
    ⟨none, .pre⟩,
    ⟨none, .ini 17 (.l 2)⟩,
    ⟨none, .mov (.l 2)⟩] [(3, 1), (4, 0)] []) (
  .seq (.seq (.reg false [⟨none, .mov (.r 0)⟩,
    ⟨none, .vc 12 [(.l 0), (.v (.c (.d (.int .i64 0)))), (.v (.c (.d (.int .i64 65535))))]⟩,
    ⟨none, .un .not (.l 0)⟩,
    ⟨none, .mov (.l 0)⟩,
    ⟨some (0, false), .mov (.r 1)⟩,
    ⟨some (1, false), .vc 12 [(.l 0), (.v (.c (.d (.int .i64 0)))), (.v (.c (.d (.int .i64 65535))))]⟩,
    ⟨some (2, false), .un .not (.l 0)⟩,
    ⟨none, .pick (.l 3) (.v (.c (.d (.bool true)))) (.l 0)⟩] [(5, 0)] []) (
  .cond (.r 5) (
  .seq (.reg false [⟨none, .mov (.r 4)⟩,
    ⟨none, .bin .eql (.l 0) (.v (.c (.d (.int .i64 1))))⟩,
    ⟨none, .mov (.l 0)⟩,
    ⟨some (0, true), .ld true 17 (.r 3)⟩,
    ⟨some (1, true), .bld [.int .u8 0, .int .u32 0, .int .u32 0, .int .u32 0, .int .u32 0, .int .u32 0, .int .u32 0, .int .u32 0, .int .u32 0, .int .u32 0, .int .u32 0, .int .u32 0, .int .u32 0, .int .u32 0, .int .u32 0, .int .u32 0, .int .u32 0] []⟩,
    ⟨some (2, true), .eqa false 17 (.l 1) (.l 0)⟩,
    ⟨none, .pick (.l 3) (.l 0) (.v (.c (.d (.bool false))))⟩,
    ⟨none, .mov (.l 0)⟩,
    ⟨some (0, true), .vc 13 []⟩,
    ⟨none, .pick (.l 1) (.l 0) (.v (.c (.d (.bool false))))⟩,
    ⟨none, .mov (.l 0)⟩] [(2, 0)] []) (
  .ret)) (
  .skip))) (
  .seq (.reg true [⟨none, .mov (.r 4)⟩,
    ⟨none, .bin .eql (.l 0) (.v (.c (.d (.int .i64 0))))⟩,
    ⟨none, .mov (.l 0)⟩,
    ⟨some (0, true), .ld true 17 (.r 3)⟩,
    ⟨some (1, true), .mov (.r 0)⟩,
    ⟨some (2, true), .mov (.r 1)⟩,
    ⟨some (3, true), .vc 26 [(.l 1), (.l 0)]⟩,
    ⟨some (4, true), .eqa false 17 (.l 3) (.l 0)⟩,
    ⟨none, .pick (.l 5) (.l 0) (.v (.c (.d (.bool false))))⟩,
    ⟨none, .mov (.l 0)⟩,
    ⟨some (0, true), .vc 13 []⟩,
    ⟨none, .pick (.l 1) (.l 0) (.v (.c (.d (.bool false))))⟩,
    ⟨none, .mov (.l 0)⟩] [(2, 0)] []) (
  .ret))))⟩

/-- vidimus/families.Wide -/
def fn9 : Fn := ⟨2, 21, [0, 1, 4, 5, 6, 7, 8, 9, 10, 11, 12, 20, 24, 25, 26, 32, 33, 34, 42, 43, 44], [.r 2, .cell 3 4 true, .r 4],
  .seq (.reg false [⟨none, .mov (.v (.c (.d (.nils))))⟩,
    ⟨none, .new [.nils, .bool false, .bool false, .bool false]⟩,
    ⟨none, .mov (.v (.c (.d (.int .i64 0))))⟩] [(2, 2), (3, 1), (4, 0)] []) (
  .seq (.seq (.reg false [⟨none, .mov (.r 0)⟩,
    ⟨none, .vc 27 [(.l 0), (.v (.c (.d (.int .i64 1)))), (.v (.c (.d (.int .i64 64))))]⟩,
    ⟨none, .un .not (.l 0)⟩,
    ⟨none, .mov (.l 0)⟩,
    ⟨some (0, false), .mov (.r 1)⟩,
    ⟨some (1, false), .vc 27 [(.l 0), (.v (.c (.d (.int .i64 1)))), (.v (.c (.d (.int .i64 8))))]⟩,
    ⟨some (2, false), .un .not (.l 0)⟩,
    ⟨none, .pick (.l 3) (.v (.c (.d (.bool true)))) (.l 0)⟩] [(11, 0)] []) (
  .cond (.r 11) (
  .seq (.reg false [⟨none, .bld [.nils, .bool false, .bool false, .bool false] []⟩,
    ⟨none, .mov (.v (.c (.d (.nils))))⟩,
    ⟨none, .st 4 (.r 3) (.l 1)⟩,
    ⟨none, .mov (.v (.c (.d (.int .i64 1))))⟩] [(2, 2), (4, 0)] []) (
  .ret)) (
  .skip))) (
  .seq (.reg false [⟨none, .mov (.r 0)⟩,
    ⟨none, .mks 8 88 [.bool false, .bool false, .nils, .bool false, .nils, .int .i64 0, .int .i64 0, .int .i64 0] (.l 0) (.l 0)⟩,
    ⟨none, .mov (.l 0)⟩] [(5, 0)] []) (
  .seq (.seq (.reg false [⟨none, .mov (.r 0)⟩,
    ⟨none, .mov (.v (.c (.d (.int .i64 0))))⟩] [(12, 1), (13, 0)] []) (
  .block 0 (
  .seq (.fresh 7 none 34) (
  .seq (.fresh 8 none 17) (
  .loop (some [1, 3, 5, 12, 13]) (
  .seq (.reg false [⟨none, .bin .lss (.r 13) (.r 12)⟩] [(14, 0)] []) (
  .seq (.cond (.r 14) (
  .skip) (
  .exit 0)) (
  .seq (.block 1 (
  .seq (.reg false [⟨none, .mov (.r 13)⟩,
    ⟨none, .mov (.l 0)⟩] [(6, 0)] []) (
  .seq (.reg false [⟨none, .mov (.r 1)⟩,
    ⟨none, .mov (.r 1)⟩,
    ⟨none, .bin .mul (.l 1) (.l 0)⟩,
    ⟨none, .mks 34 136 [.int .u8 0, .int .u32 0, .int .u32 0, .int .u32 0, .int .u32 0, .int .u32 0, .int .u32 0, .int .u32 0, .int .u32 0, .int .u32 0, .int .u32 0, .int .u32 0, .int .u32 0, .int .u32 0, .int .u32 0, .int .u32 0, .int .u32 0, .int .u8 0, .int .u32 0, .int .u32 0, .int .u32 0, .int .u32 0, .int .u32 0, .int .u32 0, .int .u32 0, .int .u32 0, .int .u32 0, .int .u32 0, .int .u32 0, .int .u32 0, .int .u32 0, .int .u32 0, .int .u32 0, .int .u32 0] (.v (.c (.d (.int .i64 0)))) (.l 0)⟩,
    ⟨none, .mov (.l 0)⟩] [(7, 0)] []) (
  .seq (.reg false [⟨none, .mov (.v (.c (.d (.nils))))⟩] [(8, 0)] []) (
  .seq (.seq (.reg false [⟨none, .mov (.r 1)⟩,
    ⟨none, .mov (.v (.c (.d (.int .i64 0))))⟩] [(15, 1), (16, 0)] []) (
  .block 2 (
  .seq (.fresh 7 none 34) (
  .seq (.fresh 8 none 17) (
  .loop (some [1, 3, 5, 6, 7, 8, 12, 13, 15, 16]) (
  .seq (.reg false [⟨none, .bin .lss (.r 16) (.r 15)⟩] [(17, 0)] []) (
  .seq (.cond (.r 17) (
  .skip) (
  .exit 2)) (
  .seq (.block 3 (
  .seq (.reg false [⟨none, .mov (.r 16)⟩,
    ⟨none, .mov (.l 0)⟩] [(9, 0)] []) (
  .seq (.reg false [⟨none, .mov (.r 8)⟩,
    ⟨none, .mov (.r 9)⟩,
    ⟨none, .bin .add (.l 0) (.v (.c (.d (.int .i64 1))))⟩,
    ⟨none, .vc 28 [(.v (.c (.d (.int .i64 0)))), (.l 0)]⟩,
    ⟨none, .bsl 1 17 [.int .u8 0, .int .u32 0, .int .u32 0, .int .u32 0, .int .u32 0, .int .u32 0, .int .u32 0, .int .u32 0, .int .u32 0, .int .u32 0, .int .u32 0, .int .u32 0, .int .u32 0, .int .u32 0, .int .u32 0, .int .u32 0, .int .u32 0] [(0, 17, (.l 0))]⟩,
    ⟨none, .app 17 (.l 4) (.l 0)⟩,
    ⟨none, .mov (.l 0)⟩] [(8, 0)] []) (
  .seq (.reg false [⟨none, .mov (.r 1)⟩,
    ⟨none, .mov (.v (.c (.d (.int .i64 0))))⟩] [(18, 1), (19, 0)] []) (
  .block 4 (
  .seq (.fresh 7 none 34) (
  .loop (some [1, 3, 5, 6, 7, 8, 9, 12, 13, 15, 16, 18, 19]) (
  .seq (.reg false [⟨none, .bin .lss (.r 19) (.r 18)⟩] [(20, 0)] []) (
  .seq (.cond (.r 20) (
  .skip) (
  .exit 4)) (
  .seq (.block 5 (
  .seq (.reg false [⟨none, .mov (.r 19)⟩,
    ⟨none, .mov (.l 0)⟩] [(10, 0)] []) (
  .reg false [⟨none, .mov (.r 7)⟩,
    ⟨none, .mov (.r 9)⟩,
    ⟨none, .bin .add (.l 0) (.v (.c (.d (.int .i64 1))))⟩,
    ⟨none, .vc 28 [(.v (.c (.d (.int .i64 0)))), (.l 0)]⟩,
    ⟨none, .mov (.r 10)⟩,
    ⟨none, .bin .add (.l 0) (.v (.c (.d (.int .i64 1))))⟩,
    ⟨none, .vc 28 [(.v (.c (.d (.int .i64 0)))), (.l 0)]⟩,
    ⟨none, .bld [.int .u8 0, .int .u32 0, .int .u32 0, .int .u32 0, .int .u32 0, .int .u32 0, .int .u32 0, .int .u32 0, .int .u32 0, .int .u32 0, .int .u32 0, .int .u32 0, .int .u32 0, .int .u32 0, .int .u32 0, .int .u32 0, .int .u32 0, .int .u8 0, .int .u32 0, .int .u32 0, .int .u32 0, .int .u32 0, .int .u32 0, .int .u32 0, .int .u32 0, .int .u32 0, .int .u32 0, .int .u32 0, .int .u32 0, .int .u32 0, .int .u32 0, .int .u32 0, .int .u32 0, .int .u32 0] [(0, 17, (.l 3)), (17, 17, (.l 0))]⟩,
    ⟨none, .bsl 1 34 [.int .u8 0, .int .u32 0, .int .u32 0, .int .u32 0, .int .u32 0, .int .u32 0, .int .u32 0, .int .u32 0, .int .u32 0, .int .u32 0, .int .u32 0, .int .u32 0, .int .u32 0, .int .u32 0, .int .u32 0, .int .u32 0, .int .u32 0, .int .u8 0, .int .u32 0, .int .u32 0, .int .u32 0, .int .u32 0, .int .u32 0, .int .u32 0, .int .u32 0, .int .u32 0, .int .u32 0, .int .u32 0, .int .u32 0, .int .u32 0, .int .u32 0, .int .u32 0, .int .u32 0, .int .u32 0] [(0, 34, (.l 0))]⟩,
    ⟨none, .app 34 (.l 8) (.l 0)⟩,
    ⟨none, .mov (.l 0)⟩] [(7, 0)] []))) (
  .reg false [⟨none, .bin .add (.r 19) (.v (.c (.d (.int .i64 1))))⟩,
    ⟨none, .mov (.l 0)⟩] [(19, 0)] []))))))))))) (
  .reg false [⟨none, .bin .add (.r 16) (.v (.c (.d (.int .i64 1))))⟩,
    ⟨none, .mov (.l 0)⟩] [(16, 0)] []))))))))) (
  .reg false [⟨none, .mov (.r 5)⟩,
    ⟨none, .mov (.r 6)⟩,
    ⟨none, .mov (.r 7)⟩,
    ⟨none, .mov (.r 8)⟩,
    ⟨none, .hc (.v (.c (.d (.fn 29 [] [])))) [(.l 1), (.l 0)]⟩,
    ⟨none, .ixa 8 (.l 4) (.l 3)⟩,
    ⟨none, .st 8 (.l 0) (.l 1)⟩] [] [])))))) (
  .reg false [⟨none, .bin .add (.r 13) (.v (.c (.d (.int .i64 1))))⟩,
    ⟨none, .mov (.l 0)⟩] [(13, 0)] []))))))))) (
  .seq (.reg false [⟨none, .mov (.r 5)⟩,
    ⟨none, .vc 30 []⟩,
    ⟨none, .mov (.l 1)⟩,
    ⟨none, .st 4 (.r 3) (.l 1)⟩,
    ⟨none, .mov (.v (.c (.d (.int .i64 0))))⟩] [(2, 2), (4, 0)] []) (
  .ret)))))⟩

/-- vidimus/families.WideTree -/
def fn10 : Fn := ⟨2, 21, [0, 1, 4, 5, 6, 7, 8, 9, 10, 18, 20, 21, 22, 23, 24, 25, 26, 46, 59, 60, 61], [.r 2, .r 3],
  .seq (.reg false [⟨none, .mov (.v (.c (.d (.str []))))⟩,
    ⟨none, .mov (.v (.c (.d (.int .i64 0))))⟩] [(2, 1), (3, 0)] []) (
  .seq (.seq (.reg false [⟨none, .mov (.r 0)⟩,
    ⟨none, .vc 27 [(.l 0), (.v (.c (.d (.int .i64 1)))), (.v (.c (.d (.int .i64 64))))]⟩,
    ⟨none, .un .not (.l 0)⟩,
    ⟨none, .mov (.l 0)⟩,
    ⟨some (0, false), .mov (.r 1)⟩,
    ⟨some (1, false), .vc 27 [(.l 0), (.v (.c (.d (.int .i64 1)))), (.v (.c (.d (.int .i64 8))))]⟩,
    ⟨some (2, false), .un .not (.l 0)⟩,
    ⟨none, .pick (.l 3) (.v (.c (.d (.bool true)))) (.l 0)⟩] [(9, 0)] []) (
  .cond (.r 9) (
  .seq (.reg false [⟨none, .mov (.v (.c (.d (.str []))))⟩,
    ⟨none, .mov (.v (.c (.d (.int .i64 1))))⟩] [(2, 1), (3, 0)] []) (
  .ret)) (
  .skip))) (
  .seq (.reg false [⟨none, .bsl 1 1 [.int .u8 0] [(0, 1, (.v (.c (.d (.int .u8 1)))))]⟩,
    ⟨none, .mov (.l 0)⟩] [(4, 0)] []) (
  .seq (.seq (.reg false [⟨none, .mov (.r 0)⟩,
    ⟨none, .mov (.v (.c (.d (.int .i64 0))))⟩] [(10, 1), (11, 0)] []) (
  .block 0 (
  .seq (.fresh 4 none 1) (
  .loop (some [1, 4, 10, 11]) (
  .seq (.reg false [⟨none, .bin .lss (.r 11) (.r 10)⟩] [(12, 0)] []) (
  .seq (.cond (.r 12) (
  .skip) (
  .exit 0)) (
  .seq (.block 1 (
  .seq (.reg false [⟨none, .mov (.v (.c (.d (.int .i64 1))))⟩] [(5, 0)] []) (
  .seq (.seq (.reg false [⟨none, .mov (.r 4)⟩,
    ⟨none, .len (.l 0)⟩,
    ⟨none, .mov (.v (.c (.d (.int .i64 0))))⟩] [(13, 2), (14, 1), (15, 0)] []) (
  .block 2 (
  .loop (some [1, 4, 5, 10, 11, 13, 14, 15]) (
  .seq (.reg false [⟨none, .bin .lss (.r 15) (.r 14)⟩] [(16, 0)] []) (
  .seq (.cond (.r 16) (
  .skip) (
  .exit 2)) (
  .seq (.block 3 (
  .seq (.reg false [⟨none, .mov (.r 15)⟩,
    ⟨none, .ixa 1 (.r 13) (.r 15)⟩,
    ⟨none, .ld false 1 (.l 0)⟩,
    ⟨none, .mov (.l 2)⟩,
    ⟨none, .mov (.l 1)⟩] [(6, 1), (7, 0)] []) (
  .seq (.reg false [⟨none, .mov (.r 5)⟩,
    ⟨none, .mov (.r 7)⟩,
    ⟨none, .cvi .i64 (.l 0)⟩,
    ⟨none, .mov (.r 1)⟩,
    ⟨none, .bin .mul (.l 1) (.l 0)⟩,
    ⟨none, .bin .add (.l 4) (.l 0)⟩,
    ⟨none, .mov (.l 0)⟩] [(5, 0)] []) (
  .seq (.reg false [⟨none, .mov (.r 4)⟩,
    ⟨none, .mov (.r 6)⟩,
    ⟨none, .mov (.r 5)⟩,
    ⟨none, .bin .rem (.l 0) (.v (.c (.d (.int .i64 10))))⟩,
    ⟨none, .cvi .u8 (.l 0)⟩,
    ⟨none, .ixa 1 (.l 4) (.l 3)⟩,
    ⟨none, .st 1 (.l 0) (.l 1)⟩] [] []) (
  .reg false [⟨none, .mov (.r 5)⟩,
    ⟨none, .bin .quo (.l 0) (.v (.c (.d (.int .i64 10))))⟩,
    ⟨none, .mov (.l 0)⟩] [(5, 0)] []))))) (
  .reg false [⟨none, .bin .add (.r 15) (.v (.c (.d (.int .i64 1))))⟩,
    ⟨none, .mov (.l 0)⟩] [(15, 0)] []))))))) (
  .block 4 (
  .seq (.fresh 4 none 1) (
  .loop (some [1, 4, 5, 10, 11]) (
  .seq (.seq (.reg false [⟨none, .mov (.r 5)⟩,
    ⟨none, .bin .gtr (.l 0) (.v (.c (.d (.int .i64 0))))⟩] [(17, 0)] []) (
  .cond (.r 17) (
  .skip) (
  .exit 4))) (
  .seq (.block 5 (
  .reg false [⟨none, .mov (.r 4)⟩,
    ⟨none, .mov (.r 5)⟩,
    ⟨none, .bin .rem (.l 0) (.v (.c (.d (.int .i64 10))))⟩,
    ⟨none, .cvi .u8 (.l 0)⟩,
    ⟨none, .bsl 1 1 [.int .u8 0] [(0, 1, (.l 0))]⟩,
    ⟨none, .app 1 (.l 4) (.l 0)⟩,
    ⟨none, .mov (.l 0)⟩] [(4, 0)] [])) (
  .reg false [⟨none, .mov (.r 5)⟩,
    ⟨none, .bin .quo (.l 0) (.v (.c (.d (.int .i64 10))))⟩,
    ⟨none, .mov (.l 0)⟩] [(5, 0)] []))))))))) (
  .reg false [⟨none, .bin .add (.r 11) (.v (.c (.d (.int .i64 1))))⟩,
    ⟨none, .mov (.l 0)⟩] [(11, 0)] [])))))))) (
  .seq (.reg false [⟨none, .mov (.r 4)⟩,
    ⟨none, .hc (.v (.c (.d (.fn 31 [] [])))) [(.l 0)]⟩] [] []) (
  .seq (.seq (.reg false [⟨none, .mov (.r 4)⟩,
    ⟨none, .len (.l 0)⟩,
    ⟨none, .mov (.v (.c (.d (.int .i64 0))))⟩] [(18, 1), (19, 0)] []) (
  .block 6 (
  .loop (some [4, 18, 19]) (
  .seq (.reg false [⟨none, .bin .lss (.r 19) (.r 18)⟩] [(20, 0)] []) (
  .seq (.cond (.r 20) (
  .skip) (
  .exit 6)) (
  .seq (.block 7 (
  .seq (.reg false [⟨none, .mov (.r 19)⟩,
    ⟨none, .mov (.l 0)⟩] [(8, 0)] []) (
  .reg false [⟨none, .mov (.r 4)⟩,
    ⟨none, .mov (.r 8)⟩,
    ⟨none, .ixa 1 (.l 1) (.l 0)⟩,
    ⟨none, .ld false 1 (.l 0)⟩,
    ⟨none, .bin .add (.l 0) (.v (.c (.d (.int .u8 48))))⟩,
    ⟨none, .ixa 1 (.l 4) (.l 3)⟩,
    ⟨none, .st 1 (.l 0) (.l 1)⟩] [] []))) (
  .reg false [⟨none, .bin .add (.r 19) (.v (.c (.d (.int .i64 1))))⟩,
    ⟨none, .mov (.l 0)⟩] [(19, 0)] []))))))) (
  .seq (.reg false [⟨none, .mov (.r 4)⟩,
    ⟨none, .b2s (.l 0)⟩,
    ⟨none, .mov (.l 0)⟩,
    ⟨none, .mov (.v (.c (.d (.int .i64 0))))⟩] [(2, 1), (3, 0)] []) (
  .ret)))))))⟩

/-- vidimus/families.WideGraph -/
def fn11 : Fn := ⟨2, 6, [0, 1, 4, 5, 6, 14], [.r 2, .r 3, .r 4],
  .seq (.reg false [⟨none, .mov (.v (.c (.d (.int .i64 0))))⟩,
    ⟨none, .mov (.v (.c (.d (.int .i64 0))))⟩,
    ⟨none, .mov (.v (.c (.d (.int .i64 0))))⟩] [(2, 2), (3, 1), (4, 0)] []) (
  .seq (.seq (.reg false [⟨none, .mov (.r 0)⟩,
    ⟨none, .vc 27 [(.l 0), (.v (.c (.d (.int .i64 1)))), (.v (.c (.d (.int .i64 64))))]⟩,
    ⟨none, .un .not (.l 0)⟩,
    ⟨none, .mov (.l 0)⟩,
    ⟨some (0, false), .mov (.r 1)⟩,
    ⟨some (1, false), .vc 27 [(.l 0), (.v (.c (.d (.int .i64 1)))), (.v (.c (.d (.int .i64 8))))]⟩,
    ⟨some (2, false), .un .not (.l 0)⟩,
    ⟨none, .pick (.l 3) (.v (.c (.d (.bool true)))) (.l 0)⟩] [(5, 0)] []) (
  .cond (.r 5) (
  .seq (.reg false [⟨none, .mov (.v (.c (.d (.int .i64 0))))⟩,
    ⟨none, .mov (.v (.c (.d (.int .i64 0))))⟩,
    ⟨none, .mov (.v (.c (.d (.int .i64 1))))⟩] [(2, 2), (3, 1), (4, 0)] []) (
  .ret)) (
  .skip))) (
  .seq (.reg false [⟨none, .mov (.r 0)⟩,
    ⟨none, .mov (.r 1)⟩,
    ⟨none, .bin .mul (.l 1) (.l 0)⟩,
    ⟨none, .bin .add (.l 0) (.v (.c (.d (.int .i64 1))))⟩,
    ⟨none, .mov (.r 1)⟩,
    ⟨none, .mov (.r 0)⟩,
    ⟨none, .bin .sub (.l 0) (.v (.c (.d (.int .i64 1))))⟩,
    ⟨none, .mov (.r 1)⟩,
    ⟨none, .bin .mul (.l 1) (.l 0)⟩,
    ⟨none, .mov (.r 1)⟩,
    ⟨none, .bin .mul (.l 1) (.l 0)⟩,
    ⟨none, .bin .add (.l 6) (.l 0)⟩,
    ⟨none, .mov (.l 8)⟩,
    ⟨none, .mov (.l 1)⟩,
    ⟨none, .mov (.v (.c (.d (.int .i64 0))))⟩] [(2, 2), (3, 1), (4, 0)] []) (
  .ret)))⟩

/-- vidimus/vidimusref35.Fits -/
def fn12 : Fn := ⟨3, 4, [0, 1, 2, 6], [.r 3],
  .seq (.reg false [⟨none, .mov (.v (.c (.d (.bool false))))⟩] [(3, 0)] []) (
  .seq (.reg false [⟨none, .mov (.r 0)⟩,
    ⟨none, .mov (.r 1)⟩,
    ⟨none, .bin .geq (.l 1) (.l 0)⟩,
    ⟨none, .mov (.l 0)⟩,
    ⟨some (0, true), .mov (.r 0)⟩,
    ⟨some (1, true), .mov (.r 2)⟩,
    ⟨some (2, true), .bin .leq (.l 1) (.l 0)⟩,
    ⟨none, .pick (.l 3) (.l 0) (.v (.c (.d (.bool false))))⟩,
    ⟨none, .mov (.l 0)⟩] [(3, 0)] []) (
  .ret))⟩

/-- vidimus/vidimuslaw35.lives -/
def fn13 : Fn := ⟨0, 22, [0, 1, 2, 3, 4, 5, 6, 7, 8, 9, 10, 11, 12, 13, 14, 15, 16, 19, 22, 23, 25, 121], [.r 0],
  .seq (.reg false [⟨none, .mov (.v (.c (.d (.bool false))))⟩] [(0, 0)] []) (
  .seq (.reg false [⟨none, .vc 10 [(.v (.c (.d (.int .i64 3)))), (.v (.c (.d (.int .i64 2))))]⟩,
    ⟨none, .mov (.l 0)⟩,
    ⟨none, .ext (.l 0) 0⟩,
    ⟨none, .ext (.l 1) 1⟩,
    ⟨none, .mov (.l 1)⟩,
    ⟨none, .mov (.l 1)⟩] [(1, 1), (2, 0)] []) (
  .seq (.reg false [⟨none, .vc 10 [(.v (.c (.d (.int .i64 64)))), (.v (.c (.d (.int .i64 2))))]⟩,
    ⟨none, .mov (.l 0)⟩,
    ⟨none, .ext (.l 0) 0⟩,
    ⟨none, .ext (.l 1) 1⟩,
    ⟨none, .mov (.l 1)⟩,
    ⟨none, .mov (.l 1)⟩] [(3, 1), (4, 0)] []) (
  .seq (.reg false [⟨none, .vc 10 [(.v (.c (.d (.int .i64 5)))), (.v (.c (.d (.int .i64 1))))]⟩,
    ⟨none, .mov (.l 0)⟩,
    ⟨none, .ext (.l 0) 0⟩,
    ⟨none, .ext (.l 1) 1⟩,
    ⟨none, .mov (.l 1)⟩,
    ⟨none, .mov (.l 1)⟩] [(5, 1), (6, 0)] []) (
  .seq (.reg false [⟨none, .vc 11 [(.v (.c (.d (.int .i64 3)))), (.v (.c (.d (.int .i64 2))))]⟩,
    ⟨none, .mov (.l 0)⟩,
    ⟨none, .ext (.l 0) 0⟩,
    ⟨none, .ext (.l 1) 1⟩,
    ⟨none, .ext (.l 2) 2⟩,
    ⟨none, .mov (.l 2)⟩,
    ⟨none, .mov (.l 2)⟩,
    ⟨none, .mov (.l 2)⟩] [(7, 2), (8, 1), (9, 0)] []) (
  .seq (.reg false [⟨none, .vc 18 [(.v (.c (.d (.int .i64 3)))), (.v (.c (.d (.int .i64 2)))), (.v (.c (.d (.int .i64 1))))]⟩,
    ⟨none, .mov (.l 0)⟩,
    ⟨none, .ext (.l 0) 0⟩,
    ⟨none, .ext (.l 1) 1⟩,
    ⟨none, .ext (.l 2) 2⟩,
    ⟨none, .mov (.l 2)⟩,
    ⟨none, .mov (.l 2)⟩,
    ⟨none, .mov (.l 2)⟩] [(10, 2), (11, 1), (12, 0)] []) (
  .seq (.reg false [⟨none, .vc 19 [(.v (.c (.d (.int .i64 3)))), (.v (.c (.d (.int .i64 2)))), (.v (.c (.d (.int .i64 1)))), (.v (.c (.d (.int .i64 2))))]⟩,
    ⟨none, .mov (.l 0)⟩,
    ⟨none, .ext (.l 0) 0⟩,
    ⟨none, .ext (.l 1) 1⟩,
    ⟨none, .mov (.l 1)⟩,
    ⟨none, .mov (.l 1)⟩] [(13, 1), (14, 0)] []) (
  .seq (.reg false [⟨none, .vc 19 [(.v (.c (.d (.int .i64 3)))), (.v (.c (.d (.int .i64 2)))), (.v (.c (.d (.int .i64 1)))), (.v (.c (.d (.int .i64 3))))]⟩,
    ⟨none, .mov (.l 0)⟩,
    ⟨none, .ext (.l 0) 0⟩,
    ⟨none, .ext (.l 1) 1⟩,
    ⟨none, .mov (.l 1)⟩,
    ⟨none, .mov (.l 1)⟩] [(15, 1), (16, 0)] []) (
  .seq (.reg false [⟨none, .vc 9 [(.v (.c (.d (.int .i64 2)))), (.v (.c (.d (.int .i64 9))))]⟩,
    ⟨none, .mov (.l 0)⟩,
    ⟨none, .ext (.l 0) 0⟩,
    ⟨none, .ext (.l 1) 1⟩,
    ⟨none, .ext (.l 2) 2⟩,
    ⟨none, .pre⟩,
    ⟨none, .mov (.l 3)⟩,
    ⟨none, .ini 4 (.l 3)⟩,
    ⟨none, .mov (.l 3)⟩] [(17, 0)] []) (
  .seq (.reg false [⟨none, .vc 17 [(.v (.c (.d (.int .i64 1)))), (.v (.c (.d (.int .i64 64)))), (.v (.c (.d (.int .i64 0))))]⟩,
    ⟨none, .mov (.l 0)⟩,
    ⟨none, .ext (.l 0) 0⟩,
    ⟨none, .ext (.l 1) 1⟩,
    ⟨none, .ext (.l 2) 2⟩,
    ⟨none, .pre⟩,
    ⟨none, .mov (.l 3)⟩,
    ⟨none, .ini 4 (.l 3)⟩,
    ⟨none, .mov (.l 3)⟩] [(18, 0)] []) (
  .seq (.reg false [⟨none, .vc 9 [(.v (.c (.d (.int .i64 2)))), (.v (.c (.d (.int .i64 1))))]⟩,
    ⟨none, .mov (.l 0)⟩,
    ⟨none, .ext (.l 0) 0⟩,
    ⟨none, .ext (.l 1) 1⟩,
    ⟨none, .ext (.l 2) 2⟩,
    ⟨none, .pre⟩,
    ⟨none, .mov (.l 3)⟩,
    ⟨none, .ini 4 (.l 3)⟩,
    ⟨none, .mov (.l 3)⟩] [(19, 2), (20, 0)] []) (
  .seq (.seq (.reg false [⟨none, .mov (.r 2)⟩,
    ⟨none, .bin .neq (.l 0) (.v (.c (.d (.int .i64 0))))⟩,
    ⟨none, .mov (.l 0)⟩,
    ⟨some (0, false), .mov (.r 4)⟩,
    ⟨some (1, false), .bin .neq (.l 0) (.v (.c (.d (.int .i64 0))))⟩,
    ⟨none, .pick (.l 2) (.v (.c (.d (.bool true)))) (.l 0)⟩,
    ⟨none, .mov (.l 0)⟩,
    ⟨some (0, false), .mov (.r 6)⟩,
    ⟨some (1, false), .bin .neq (.l 0) (.v (.c (.d (.int .i64 0))))⟩,
    ⟨none, .pick (.l 2) (.v (.c (.d (.bool true)))) (.l 0)⟩,
    ⟨none, .mov (.l 0)⟩,
    ⟨some (0, false), .mov (.r 9)⟩,
    ⟨some (1, false), .bin .neq (.l 0) (.v (.c (.d (.int .i64 0))))⟩,
    ⟨none, .pick (.l 2) (.v (.c (.d (.bool true)))) (.l 0)⟩,
    ⟨none, .mov (.l 0)⟩,
    ⟨some (0, false), .mov (.r 12)⟩,
    ⟨some (1, false), .bin .neq (.l 0) (.v (.c (.d (.int .i64 0))))⟩,
    ⟨none, .pick (.l 2) (.v (.c (.d (.bool true)))) (.l 0)⟩,
    ⟨none, .mov (.l 0)⟩,
    ⟨some (0, false), .mov (.r 14)⟩,
    ⟨some (1, false), .bin .neq (.l 0) (.v (.c (.d (.int .i64 0))))⟩,
    ⟨none, .pick (.l 2) (.v (.c (.d (.bool true)))) (.l 0)⟩,
    ⟨none, .mov (.l 0)⟩,
    ⟨some (0, false), .mov (.r 16)⟩,
    ⟨some (1, false), .bin .neq (.l 0) (.v (.c (.d (.int .i64 0))))⟩,
    ⟨none, .pick (.l 2) (.v (.c (.d (.bool true)))) (.l 0)⟩,
    ⟨none, .mov (.l 0)⟩,
    ⟨some (0, false), .mov (.r 17)⟩,
    ⟨some (1, false), .bin .neq (.l 0) (.v (.c (.d (.int .i64 1))))⟩,
    ⟨none, .pick (.l 2) (.v (.c (.d (.bool true)))) (.l 0)⟩,
    ⟨none, .mov (.l 0)⟩,
    ⟨some (0, false), .mov (.r 18)⟩,
    ⟨some (1, false), .bin .neq (.l 0) (.v (.c (.d (.int .i64 1))))⟩,
    ⟨none, .pick (.l 2) (.v (.c (.d (.bool true)))) (.l 0)⟩,
    ⟨none, .mov (.l 0)⟩,
    ⟨some (0, false), .mov (.r 20)⟩,
    ⟨some (1, false), .bin .neq (.l 0) (.v (.c (.d (.int .i64 0))))⟩,
    ⟨none, .pick (.l 2) (.v (.c (.d (.bool true)))) (.l 0)⟩,
    ⟨none, .mov (.l 0)⟩,
    ⟨some (0, false), .mov (.r 19)⟩,
    ⟨some (1, false), .len (.l 0)⟩,
    ⟨some (2, false), .bin .neq (.l 0) (.v (.c (.d (.int .i64 2))))⟩,
    ⟨none, .pick (.l 3) (.v (.c (.d (.bool true)))) (.l 0)⟩,
    ⟨none, .mov (.l 0)⟩,
    ⟨some (0, false), .mov (.r 19)⟩,
    ⟨some (1, false), .ixa 8 (.l 0) (.v (.c (.d (.int .i64 1))))⟩,
    ⟨some (2, false), .fa 2 (.l 0)⟩,
    ⟨some (3, false), .ld false 1 (.l 0)⟩,
    ⟨some (4, false), .len (.l 0)⟩,
    ⟨some (5, false), .bin .neq (.l 0) (.v (.c (.d (.int .i64 1))))⟩,
    ⟨none, .pick (.l 6) (.v (.c (.d (.bool true)))) (.l 0)⟩] [(21, 0)] []) (
  .cond (.r 21) (
  .seq (.reg false [⟨none, .mov (.v (.c (.d (.bool false))))⟩] [(0, 0)] []) (
  .ret)) (
  .skip))) (
  .seq (.reg false [⟨none, .mov (.r 1)⟩,
    ⟨none, .bin .eql (.l 0) (.v (.c (.d (.str [49, 53]))))⟩,
    ⟨none, .mov (.l 0)⟩,
    ⟨some (0, true), .mov (.r 3)⟩,
    ⟨some (1, true), .bin .eql (.l 0) (.v (.c (.d (.str [51, 54, 56, 57, 51, 52, 56, 56, 49, 52, 55, 52, 49, 57, 49, 48, 51, 50, 51, 49]))))⟩,
    ⟨none, .pick (.l 2) (.l 0) (.v (.c (.d (.bool false))))⟩,
    ⟨none, .mov (.l 0)⟩,
    ⟨some (0, true), .mov (.r 5)⟩,
    ⟨some (1, true), .bin .eql (.l 0) (.v (.c (.d (.str [54]))))⟩,
    ⟨none, .pick (.l 2) (.l 0) (.v (.c (.d (.bool false))))⟩,
    ⟨none, .mov (.l 0)⟩,
    ⟨some (0, true), .mov (.r 7)⟩,
    ⟨some (1, true), .bin .eql (.l 0) (.v (.c (.d (.int .i64 7))))⟩,
    ⟨none, .pick (.l 2) (.l 0) (.v (.c (.d (.bool false))))⟩,
    ⟨none, .mov (.l 0)⟩,
    ⟨some (0, true), .mov (.r 8)⟩,
    ⟨some (1, true), .bin .eql (.l 0) (.v (.c (.d (.int .i64 10))))⟩,
    ⟨none, .pick (.l 2) (.l 0) (.v (.c (.d (.bool false))))⟩,
    ⟨none, .mov (.l 0)⟩,
    ⟨some (0, true), .mov (.r 10)⟩,
    ⟨some (1, true), .bin .eql (.l 0) (.v (.c (.d (.int .i64 21))))⟩,
    ⟨none, .pick (.l 2) (.l 0) (.v (.c (.d (.bool false))))⟩,
    ⟨none, .mov (.l 0)⟩,
    ⟨some (0, true), .mov (.r 11)⟩,
    ⟨some (1, true), .bin .eql (.l 0) (.v (.c (.d (.int .i64 20))))⟩,
    ⟨none, .pick (.l 2) (.l 0) (.v (.c (.d (.bool false))))⟩,
    ⟨none, .mov (.l 0)⟩,
    ⟨some (0, true), .mov (.r 13)⟩,
    ⟨some (1, true), .bin .eql (.l 0) (.v (.c (.d (.int .i64 7))))⟩,
    ⟨none, .pick (.l 2) (.l 0) (.v (.c (.d (.bool false))))⟩,
    ⟨none, .mov (.l 0)⟩,
    ⟨some (0, true), .mov (.r 15)⟩,
    ⟨some (1, true), .bin .eql (.l 0) (.v (.c (.d (.int .i64 9))))⟩,
    ⟨none, .pick (.l 2) (.l 0) (.v (.c (.d (.bool false))))⟩,
    ⟨none, .mov (.l 0)⟩,
    ⟨some (0, true), .mov (.r 19)⟩,
    ⟨some (1, true), .ixa 8 (.l 0) (.v (.c (.d (.int .i64 1))))⟩,
    ⟨some (2, true), .fa 2 (.l 0)⟩,
    ⟨some (3, true), .ld false 1 (.l 0)⟩,
    ⟨some (4, true), .ixa 18 (.l 0) (.v (.c (.d (.int .i64 0))))⟩,
    ⟨some (5, true), .fa 0 (.l 0)⟩,
    ⟨some (6, true), .ld true 17 (.l 0)⟩,
    ⟨some (7, true), .vc 32 [(.l 0)]⟩,
    ⟨some (8, true), .bin .eql (.l 0) (.v (.c (.d (.str [49, 46, 51, 46, 54, 46, 49, 46, 52, 46, 49, 46, 57, 57, 46, 48, 46, 49]))))⟩,
    ⟨none, .pick (.l 9) (.l 0) (.v (.c (.d (.bool false))))⟩,
    ⟨none, .mov (.l 0)⟩] [(0, 0)] []) (
  .ret)))))))))))))⟩

/-- vidimus/vidimuslaw35.like -/
def fn14 : Fn := ⟨2, 15, [0, 1, 4, 5, 6, 7, 8, 9, 14, 18, 86, 91, 124, 129, 142], [.r 2],
  .seq (.reg false [⟨none, .mov (.v (.c (.d (.int .i64 0))))⟩] [(2, 0)] []) (
  .seq (.seq (.reg false [⟨none, .mov (.r 0)⟩,
    ⟨none, .len (.l 0)⟩,
    ⟨none, .mov (.r 1)⟩,
    ⟨none, .len (.l 0)⟩,
    ⟨none, .bin .neq (.l 2) (.l 0)⟩] [(8, 0)] []) (
  .cond (.r 8) (
  .seq (.reg false [⟨none, .mov (.v (.c (.d (.int .i64 0))))⟩] [(2, 0)] []) (
  .ret)) (
  .skip))) (
  .seq (.seq (.reg false [⟨none, .mov (.v (.c (.d (.int .i64 0))))⟩] [(3, 0)] []) (
  .block 0 (
  .loop (some [0, 1, 3]) (
  .seq (.seq (.reg false [⟨none, .mov (.r 3)⟩,
    ⟨none, .mov (.r 0)⟩,
    ⟨none, .len (.l 0)⟩,
    ⟨none, .bin .lss (.l 2) (.l 0)⟩] [(9, 0)] []) (
  .cond (.r 9) (
  .skip) (
  .exit 0))) (
  .seq (.block 1 (
  .seq (.reg true [⟨none, .mov (.r 0)⟩,
    ⟨none, .mov (.r 3)⟩,
    ⟨none, .ixa 8 (.l 1) (.l 0)⟩,
    ⟨none, .ld true 8 (.l 0)⟩,
    ⟨none, .mov (.r 1)⟩,
    ⟨none, .mov (.r 3)⟩,
    ⟨none, .ixa 8 (.l 1) (.l 0)⟩,
    ⟨none, .ld true 8 (.l 0)⟩,
    ⟨none, .pre⟩,
    ⟨none, .pre⟩,
    ⟨none, .ini 8 (.l 6)⟩,
    ⟨none, .ini 8 (.l 3)⟩] [(4, 1), (5, 0)] []) (
  .seq (.seq (.reg false [⟨none, .fa 0 (.r 4)⟩,
    ⟨none, .ld false 1 (.l 0)⟩,
    ⟨none, .fa 0 (.r 5)⟩,
    ⟨none, .ld false 1 (.l 0)⟩,
    ⟨none, .beq true (.l 2) (.l 0)⟩,
    ⟨none, .mov (.l 0)⟩,
    ⟨some (0, false), .fa 1 (.r 4)⟩,
    ⟨some (1, false), .ld false 1 (.l 0)⟩,
    ⟨some (2, false), .fa 1 (.r 5)⟩,
    ⟨some (3, false), .ld false 1 (.l 0)⟩,
    ⟨some (4, false), .beq true (.l 2) (.l 0)⟩,
    ⟨none, .pick (.l 5) (.v (.c (.d (.bool true)))) (.l 0)⟩,
    ⟨none, .mov (.l 0)⟩,
    ⟨some (0, false), .fa 3 (.r 4)⟩,
    ⟨some (1, false), .ld false 1 (.l 0)⟩,
    ⟨some (2, false), .fa 3 (.r 5)⟩,
    ⟨some (3, false), .ld false 1 (.l 0)⟩,
    ⟨some (4, false), .beq true (.l 2) (.l 0)⟩,
    ⟨none, .pick (.l 5) (.v (.c (.d (.bool true)))) (.l 0)⟩,
    ⟨none, .mov (.l 0)⟩,
    ⟨some (0, false), .fa 5 (.r 4)⟩,
    ⟨some (1, false), .ld false 1 (.l 0)⟩,
    ⟨some (2, false), .fa 5 (.r 5)⟩,
    ⟨some (3, false), .ld false 1 (.l 0)⟩,
    ⟨some (4, false), .bin .neq (.l 2) (.l 0)⟩,
    ⟨none, .pick (.l 5) (.v (.c (.d (.bool true)))) (.l 0)⟩,
    ⟨none, .mov (.l 0)⟩,
    ⟨some (0, false), .fa 6 (.r 4)⟩,
    ⟨some (1, false), .ld false 1 (.l 0)⟩,
    ⟨some (2, false), .fa 6 (.r 5)⟩,
    ⟨some (3, false), .ld false 1 (.l 0)⟩,
    ⟨some (4, false), .bin .neq (.l 2) (.l 0)⟩,
    ⟨none, .pick (.l 5) (.v (.c (.d (.bool true)))) (.l 0)⟩,
    ⟨none, .mov (.l 0)⟩,
    ⟨some (0, false), .fa 7 (.r 4)⟩,
    ⟨some (1, false), .ld false 1 (.l 0)⟩,
    ⟨some (2, false), .fa 7 (.r 5)⟩,
    ⟨some (3, false), .ld false 1 (.l 0)⟩,
    ⟨some (4, false), .bin .neq (.l 2) (.l 0)⟩,
    ⟨none, .pick (.l 5) (.v (.c (.d (.bool true)))) (.l 0)⟩,
    ⟨none, .mov (.l 0)⟩,
    ⟨some (0, false), .fa 2 (.r 4)⟩,
    ⟨some (1, false), .ld false 1 (.l 0)⟩,
    ⟨some (2, false), .len (.l 0)⟩,
    ⟨some (3, false), .fa 2 (.r 5)⟩,
    ⟨some (4, false), .ld false 1 (.l 0)⟩,
    ⟨some (5, false), .len (.l 0)⟩,
    ⟨some (6, false), .bin .neq (.l 3) (.l 0)⟩,
    ⟨none, .pick (.l 7) (.v (.c (.d (.bool true)))) (.l 0)⟩,
    ⟨none, .mov (.l 0)⟩,
    ⟨some (0, false), .fa 4 (.r 4)⟩,
    ⟨some (1, false), .ld false 1 (.l 0)⟩,
    ⟨some (2, false), .len (.l 0)⟩,
    ⟨some (3, false), .fa 4 (.r 5)⟩,
    ⟨some (4, false), .ld false 1 (.l 0)⟩,
    ⟨some (5, false), .len (.l 0)⟩,
    ⟨some (6, false), .bin .neq (.l 3) (.l 0)⟩,
    ⟨none, .pick (.l 7) (.v (.c (.d (.bool true)))) (.l 0)⟩] [(10, 0)] []) (
  .cond (.r 10) (
  .seq (.reg false [⟨none, .mov (.v (.c (.d (.int .i64 0))))⟩] [(2, 0)] []) (
  .ret)) (
  .skip))) (
  .seq (.seq (.reg false [⟨none, .mov (.v (.c (.d (.int .i64 0))))⟩] [(6, 0)] []) (
  .block 2 (
  .loop (some [0, 1, 3, 4, 5, 6]) (
  .seq (.seq (.reg false [⟨none, .mov (.r 6)⟩,
    ⟨none, .fa 2 (.r 4)⟩,
    ⟨none, .ld false 1 (.l 0)⟩,
    ⟨none, .len (.l 0)⟩,
    ⟨none, .bin .lss (.l 3) (.l 0)⟩] [(11, 0)] []) (
  .cond (.r 11) (
  .skip) (
  .exit 2))) (
  .seq (.block 3 (
  .seq (.reg true [⟨none, .fa 2 (.r 4)⟩,
    ⟨none, .ld false 1 (.l 0)⟩,
    ⟨none, .mov (.r 6)⟩,
    ⟨none, .ixa 18 (.l 1) (.l 0)⟩,
    ⟨none, .fa 0 (.l 0)⟩,
    ⟨none, .ld true 17 (.l 0)⟩,
    ⟨none, .fa 2 (.r 5)⟩,
    ⟨none, .ld false 1 (.l 0)⟩,
    ⟨none, .mov (.r 6)⟩,
    ⟨none, .ixa 18 (.l 1) (.l 0)⟩,
    ⟨none, .fa 0 (.l 0)⟩,
    ⟨none, .ld true 17 (.l 0)⟩,
    ⟨none, .eqa true 17 (.l 6) (.l 0)⟩,
    ⟨none, .mov (.l 0)⟩,
    ⟨some (0, false), .fa 2 (.r 4)⟩,
    ⟨some (1, false), .ld false 1 (.l 0)⟩,
    ⟨some (2, false), .mov (.r 6)⟩,
    ⟨some (3, false), .ixa 18 (.l 1) (.l 0)⟩,
    ⟨some (4, false), .fa 17 (.l 0)⟩,
    ⟨some (5, false), .ld false 1 (.l 0)⟩,
    ⟨some (6, false), .len (.l 0)⟩,
    ⟨some (7, false), .fa 2 (.r 5)⟩,
    ⟨some (8, false), .ld false 1 (.l 0)⟩,
    ⟨some (9, false), .mov (.r 6)⟩,
    ⟨some (10, false), .ixa 18 (.l 1) (.l 0)⟩,
    ⟨some (11, false), .fa 17 (.l 0)⟩,
    ⟨some (12, false), .ld false 1 (.l 0)⟩,
    ⟨some (13, false), .len (.l 0)⟩,
    ⟨some (14, false), .bin .add (.l 7) (.l 0)⟩,
    ⟨some (15, false), .bin .gtr (.l 0) (.v (.c (.d (.int .i64 0))))⟩,
    ⟨none, .pick (.l 16) (.v (.c (.d (.bool true)))) (.l 0)⟩] [(12, 0)] []) (
  .cond (.r 12) (
  .seq (.reg false [⟨none, .mov (.v (.c (.d (.int .i64 0))))⟩] [(2, 0)] []) (
  .ret)) (
  .skip)))) (
  .reg false [⟨none, .mov (.r 6)⟩,
    ⟨none, .bin .add (.l 0) (.v (.c (.d (.int .i64 1))))⟩,
    ⟨none, .mov (.l 0)⟩] [(6, 0)] [])))))) (
  .seq (.reg false [⟨none, .mov (.v (.c (.d (.int .i64 0))))⟩] [(7, 0)] []) (
  .block 4 (
  .loop (some [0, 1, 3, 4, 5, 7]) (
  .seq (.seq (.reg false [⟨none, .mov (.r 7)⟩,
    ⟨none, .fa 4 (.r 4)⟩,
    ⟨none, .ld false 1 (.l 0)⟩,
    ⟨none, .len (.l 0)⟩,
    ⟨none, .bin .lss (.l 3) (.l 0)⟩] [(13, 0)] []) (
  .cond (.r 13) (
  .skip) (
  .exit 4))) (
  .seq (.block 5 (
  .seq (.reg true [⟨none, .fa 4 (.r 4)⟩,
    ⟨none, .ld false 1 (.l 0)⟩,
    ⟨none, .mov (.r 7)⟩,
    ⟨none, .ixa 34 (.l 1) (.l 0)⟩,
    ⟨none, .ld true 34 (.l 0)⟩,
    ⟨none, .fa 4 (.r 5)⟩,
    ⟨none, .ld false 1 (.l 0)⟩,
    ⟨none, .mov (.r 7)⟩,
    ⟨none, .ixa 34 (.l 1) (.l 0)⟩,
    ⟨none, .ld true 34 (.l 0)⟩,
    ⟨none, .eqa true 34 (.l 5) (.l 0)⟩] [(14, 0)] []) (
  .cond (.r 14) (
  .seq (.reg false [⟨none, .mov (.v (.c (.d (.int .i64 0))))⟩] [(2, 0)] []) (
  .ret)) (
  .skip)))) (
  .reg false [⟨none, .mov (.r 7)⟩,
    ⟨none, .bin .add (.l 0) (.v (.c (.d (.int .i64 1))))⟩,
    ⟨none, .mov (.l 0)⟩] [(7, 0)] [])))))))))) (
  .reg false [⟨none, .mov (.r 3)⟩,
    ⟨none, .bin .add (.l 0) (.v (.c (.d (.int .i64 1))))⟩,
    ⟨none, .mov (.l 0)⟩] [(3, 0)] [])))))) (
  .seq (.reg false [⟨none, .mov (.v (.c (.d (.int .i64 1))))⟩] [(2, 0)] []) (
  .ret))))⟩

/-- vidimus/vidimusref35.Wide -/
def fn15 : Fn := ⟨2, 11, [0, 1, 4, 5, 6, 7, 8, 9, 12, 18, 27], [.r 2],
  .seq (.reg false [⟨none, .mov (.v (.c (.d (.nils))))⟩] [(2, 0)] []) (
  .seq (.reg false [⟨none, .mov (.v (.c (.d (.nils))))⟩] [(3, 0)] []) (
  .seq (.seq (.reg false [⟨none, .mov (.v (.c (.d (.int .i64 1))))⟩] [(4, 0)] []) (
  .block 0 (
  .seq (.fresh 3 none 8) (
  .loop (some [0, 1, 3, 4]) (
  .seq (.seq (.reg false [⟨none, .mov (.r 4)⟩,
    ⟨none, .mov (.r 0)⟩,
    ⟨none, .bin .leq (.l 1) (.l 0)⟩] [(8, 0)] []) (
  .cond (.r 8) (
  .skip) (
  .exit 0))) (
  .seq (.block 1 (
  .seq (.reg false [⟨none, .vc 33 []⟩,
    ⟨none, .pre⟩,
    ⟨none, .ini 8 (.l 1)⟩] [(5, 0)] []) (
  .seq (.seq (.reg false [⟨none, .mov (.v (.c (.d (.int .i64 1))))⟩] [(6, 0)] []) (
  .block 2 (
  .loop (some [0, 1, 3, 4, 5, 6]) (
  .seq (.seq (.reg false [⟨none, .mov (.r 6)⟩,
    ⟨none, .mov (.r 1)⟩,
    ⟨none, .bin .leq (.l 1) (.l 0)⟩] [(9, 0)] []) (
  .cond (.r 9) (
  .skip) (
  .exit 2))) (
  .seq (.block 3 (
  .seq (.reg true [⟨none, .ld true 8 (.r 5)⟩,
    ⟨none, .mov (.r 6)⟩,
    ⟨none, .vc 26 [(.v (.c (.d (.int .i64 0)))), (.l 0)]⟩,
    ⟨none, .hc (.v (.c (.d (.fn 34 [] [])))) [(.l 2), (.l 0)]⟩,
    ⟨none, .st 8 (.r 5) (.l 0)⟩] [] []) (
  .seq (.reg false [⟨none, .mov (.v (.c (.d (.int .i64 1))))⟩] [(7, 0)] []) (
  .block 4 (
  .loop (some [0, 1, 3, 4, 5, 6, 7]) (
  .seq (.seq (.reg false [⟨none, .mov (.r 7)⟩,
    ⟨none, .mov (.r 1)⟩,
    ⟨none, .bin .leq (.l 1) (.l 0)⟩] [(10, 0)] []) (
  .cond (.r 10) (
  .skip) (
  .exit 4))) (
  .seq (.block 5 (
  .reg true [⟨none, .ld true 8 (.r 5)⟩,
    ⟨none, .mov (.r 6)⟩,
    ⟨none, .vc 26 [(.v (.c (.d (.int .i64 0)))), (.l 0)]⟩,
    ⟨none, .mov (.r 7)⟩,
    ⟨none, .vc 26 [(.v (.c (.d (.int .i64 0)))), (.l 0)]⟩,
    ⟨none, .hc (.v (.c (.d (.fn 35 [] [])))) [(.l 4), (.l 2), (.l 0)]⟩,
    ⟨none, .st 8 (.r 5) (.l 0)⟩] [] [])) (
  .reg false [⟨none, .mov (.r 7)⟩,
    ⟨none, .bin .add (.l 0) (.v (.c (.d (.int .i64 1))))⟩,
    ⟨none, .mov (.l 0)⟩] [(7, 0)] [])))))))) (
  .reg false [⟨none, .mov (.r 6)⟩,
    ⟨none, .bin .add (.l 0) (.v (.c (.d (.int .i64 1))))⟩,
    ⟨none, .mov (.l 0)⟩] [(6, 0)] [])))))) (
  .reg false [⟨none, .mov (.r 3)⟩,
    ⟨none, .ld true 8 (.r 5)⟩,
    ⟨none, .bsl 1 8 [.bool false, .bool false, .nils, .bool false, .nils, .int .i64 0, .int .i64 0, .int .i64 0] [(0, 8, (.l 0))]⟩,
    ⟨none, .app 8 (.l 2) (.l 0)⟩,
    ⟨none, .mov (.l 0)⟩] [(3, 0)] [])))) (
  .reg false [⟨none, .mov (.r 4)⟩,
    ⟨none, .bin .add (.l 0) (.v (.c (.d (.int .i64 1))))⟩,
    ⟨none, .mov (.l 0)⟩] [(4, 0)] []))))))) (
  .seq (.reg false [⟨none, .mov (.r 3)⟩,
    ⟨none, .mov (.l 0)⟩] [(2, 0)] []) (
  .ret))))⟩

/-- vidimus/vidimuslaw35.given -/
def fn16 : Fn := ⟨1, 5, [0, 1, 2, 3, 17], [.r 2],
  .seq (.reg false [⟨none, .box (.r 0)⟩,
    ⟨none, .mov (.v (.c (.d (.int .i64 0))))⟩] [(1, 1), (2, 0)] []) (
  .seq (.reg false [⟨none, .vc 22 []⟩,
    ⟨none, .pre⟩,
    ⟨none, .ini 4 (.l 1)⟩] [(3, 0)] []) (
  .seq (.seq (.reg false [⟨none, .fa 1 (.r 1)⟩,
    ⟨none, .ld false 1 (.l 0)⟩,
    ⟨none, .fa 1 (.r 3)⟩,
    ⟨none, .ld false 1 (.l 0)⟩,
    ⟨none, .beq true (.l 2) (.l 0)⟩,
    ⟨none, .mov (.l 0)⟩,
    ⟨some (0, false), .fa 2 (.r 1)⟩,
    ⟨some (1, false), .ld false 1 (.l 0)⟩,
    ⟨none, .pick (.l 2) (.v (.c (.d (.bool true)))) (.l 0)⟩,
    ⟨none, .mov (.l 0)⟩,
    ⟨some (0, false), .fa 3 (.r 1)⟩,
    ⟨some (1, false), .ld false 1 (.l 0)⟩,
    ⟨none, .pick (.l 2) (.v (.c (.d (.bool true)))) (.l 0)⟩] [(4, 0)] []) (
  .cond (.r 4) (
  .seq (.reg false [⟨none, .mov (.v (.c (.d (.int .i64 0))))⟩] [(2, 0)] []) (
  .ret)) (
  .skip))) (
  .seq (.reg false [⟨none, .fa 0 (.r 1)⟩,
    ⟨none, .ld false 1 (.l 0)⟩,
    ⟨none, .fa 0 (.r 3)⟩,
    ⟨none, .ld false 1 (.l 0)⟩,
    ⟨none, .vc 36 [(.l 2), (.l 0)]⟩,
    ⟨none, .mov (.l 0)⟩] [(2, 0)] []) (
  .ret))))⟩

/-- vidimus/families.Long -/
def fn17 : Fn := ⟨3, 22, [0, 1, 2, 6, 7, 8, 9, 10, 11, 12, 13, 14, 19, 23, 24, 25, 27, 28, 29, 42, 43, 44], [.r 3, .cell 4 4 true, .r 5],
  .seq (.reg false [⟨none, .mov (.v (.c (.d (.nils))))⟩,
    ⟨none, .new [.nils, .bool false, .bool false, .bool false]⟩,
    ⟨none, .mov (.v (.c (.d (.int .i64 0))))⟩] [(3, 2), (4, 1), (5, 0)] []) (
  .seq (.seq (.reg false [⟨none, .mov (.r 0)⟩,
    ⟨none, .mov (.r 1)⟩,
    ⟨none, .mov (.r 2)⟩,
    ⟨none, .vc 37 [(.l 2), (.l 1), (.l 0)]⟩,
    ⟨none, .un .not (.l 0)⟩] [(12, 0)] []) (
  .cond (.r 12) (
  .seq (.reg false [⟨none, .bld [.nils, .bool false, .bool false, .bool false] []⟩,
    ⟨none, .mov (.v (.c (.d (.nils))))⟩,
    ⟨none, .st 4 (.r 4) (.l 1)⟩,
    ⟨none, .mov (.v (.c (.d (.int .i64 1))))⟩] [(3, 2), (5, 0)] []) (
  .ret)) (
  .skip))) (
  .seq (.reg false [⟨none, .mov (.r 0)⟩,
    ⟨none, .mks 8 88 [.bool false, .bool false, .nils, .bool false, .nils, .int .i64 0, .int .i64 0, .int .i64 0] (.l 0) (.l 0)⟩,
    ⟨none, .mov (.l 0)⟩] [(6, 0)] []) (
  .seq (.seq (.reg false [⟨none, .mov (.r 0)⟩,
    ⟨none, .mov (.v (.c (.d (.int .i64 0))))⟩] [(13, 1), (14, 0)] []) (
  .block 0 (
  .seq (.fresh 8 none 17) (
  .loop (some [1, 2, 4, 6, 13, 14]) (
  .seq (.reg false [⟨none, .bin .lss (.r 14) (.r 13)⟩] [(15, 0)] []) (
  .seq (.cond (.r 15) (
  .skip) (
  .exit 0)) (
  .seq (.block 1 (
  .seq (.reg false [⟨none, .mov (.r 14)⟩,
    ⟨none, .mov (.l 0)⟩] [(7, 0)] []) (
  .seq (.reg false [⟨none, .mov (.v (.c (.d (.nils))))⟩] [(8, 0)] []) (
  .seq (.seq (.reg false [⟨none, .mov (.r 1)⟩,
    ⟨none, .mov (.v (.c (.d (.int .i64 0))))⟩] [(16, 1), (17, 0)] []) (
  .block 2 (
  .seq (.fresh 8 none 17) (
  .loop (some [1, 2, 4, 6, 7, 8, 13, 14, 16, 17]) (
  .seq (.reg false [⟨none, .bin .lss (.r 17) (.r 16)⟩] [(18, 0)] []) (
  .seq (.cond (.r 18) (
  .skip) (
  .exit 2)) (
  .seq (.block 3 (
  .seq (.reg false [⟨none, .mov (.r 17)⟩,
    ⟨none, .mov (.l 0)⟩] [(9, 0)] []) (
  .reg false [⟨none, .mov (.r 8)⟩,
    ⟨none, .mov (.r 7)⟩,
    ⟨none, .bin .add (.l 0) (.v (.c (.d (.int .i64 1))))⟩,
    ⟨none, .mov (.r 9)⟩,
    ⟨none, .bin .add (.l 0) (.v (.c (.d (.int .i64 1))))⟩,
    ⟨none, .vc 28 [(.l 2), (.l 0)]⟩,
    ⟨none, .bsl 1 17 [.int .u8 0, .int .u32 0, .int .u32 0, .int .u32 0, .int .u32 0, .int .u32 0, .int .u32 0, .int .u32 0, .int .u32 0, .int .u32 0, .int .u32 0, .int .u32 0, .int .u32 0, .int .u32 0, .int .u32 0, .int .u32 0, .int .u32 0] [(0, 17, (.l 0))]⟩,
    ⟨none, .app 17 (.l 6) (.l 0)⟩,
    ⟨none, .mov (.l 0)⟩] [(8, 0)] []))) (
  .reg false [⟨none, .bin .add (.r 17) (.v (.c (.d (.int .i64 1))))⟩,
    ⟨none, .mov (.l 0)⟩] [(17, 0)] [])))))))) (
  .seq (.reg false [⟨none, .mov (.r 2)⟩,
    ⟨none, .mks 34 136 [.int .u8 0, .int .u32 0, .int .u32 0, .int .u32 0, .int .u32 0, .int .u32 0, .int .u32 0, .int .u32 0, .int .u32 0, .int .u32 0, .int .u32 0, .int .u32 0, .int .u32 0, .int .u32 0, .int .u32 0, .int .u32 0, .int .u32 0, .int .u8 0, .int .u32 0, .int .u32 0, .int .u32 0, .int .u32 0, .int .u32 0, .int .u32 0, .int .u32 0, .int .u32 0, .int .u32 0, .int .u32 0, .int .u32 0, .int .u32 0, .int .u32 0, .int .u32 0, .int .u32 0, .int .u32 0] (.l 0) (.l 0)⟩,
    ⟨none, .mov (.l 0)⟩] [(10, 0)] []) (
  .seq (.seq (.reg false [⟨none, .mov (.r 2)⟩,
    ⟨none, .mov (.v (.c (.d (.int .i64 0))))⟩] [(19, 1), (20, 0)] []) (
  .block 4 (
  .loop (some [1, 2, 4, 6, 7, 8, 10, 13, 14, 19, 20]) (
  .seq (.reg false [⟨none, .bin .lss (.r 20) (.r 19)⟩] [(21, 0)] []) (
  .seq (.cond (.r 21) (
  .skip) (
  .exit 4)) (
  .seq (.block 5 (
  .seq (.reg false [⟨none, .mov (.r 20)⟩,
    ⟨none, .mov (.l 0)⟩] [(11, 0)] []) (
  .reg false [⟨none, .mov (.r 10)⟩,
    ⟨none, .mov (.r 11)⟩,
    ⟨none, .mov (.r 7)⟩,
    ⟨none, .bin .add (.l 0) (.v (.c (.d (.int .i64 1))))⟩,
    ⟨none, .mov (.r 1)⟩,
    ⟨none, .mov (.r 11)⟩,
    ⟨none, .bin .add (.l 1) (.l 0)⟩,
    ⟨none, .bin .add (.l 0) (.v (.c (.d (.int .i64 1))))⟩,
    ⟨none, .vc 28 [(.l 4), (.l 0)]⟩,
    ⟨none, .mov (.r 7)⟩,
    ⟨none, .bin .add (.l 0) (.v (.c (.d (.int .i64 1))))⟩,
    ⟨none, .mov (.r 1)⟩,
    ⟨none, .mov (.r 2)⟩,
    ⟨none, .bin .add (.l 1) (.l 0)⟩,
    ⟨none, .mov (.r 11)⟩,
    ⟨none, .bin .add (.l 1) (.l 0)⟩,
    ⟨none, .bin .add (.l 0) (.v (.c (.d (.int .i64 1))))⟩,
    ⟨none, .vc 28 [(.l 6), (.l 0)]⟩,
    ⟨none, .bld [.int .u8 0, .int .u32 0, .int .u32 0, .int .u32 0, .int .u32 0, .int .u32 0, .int .u32 0, .int .u32 0, .int .u32 0, .int .u32 0, .int .u32 0, .int .u32 0, .int .u32 0, .int .u32 0, .int .u32 0, .int .u32 0, .int .u32 0, .int .u8 0, .int .u32 0, .int .u32 0, .int .u32 0, .int .u32 0, .int .u32 0, .int .u32 0, .int .u32 0, .int .u32 0, .int .u32 0, .int .u32 0, .int .u32 0, .int .u32 0, .int .u32 0, .int .u32 0, .int .u32 0, .int .u32 0] [(0, 17, (.l 9)), (17, 17, (.l 0))]⟩,
    ⟨none, .ixa 34 (.l 18) (.l 17)⟩,
    ⟨none, .st 34 (.l 0) (.l 1)⟩] [] []))) (
  .reg false [⟨none, .bin .add (.r 20) (.v (.c (.d (.int .i64 1))))⟩,
    ⟨none, .mov (.l 0)⟩] [(20, 0)] []))))))) (
  .reg false [⟨none, .mov (.r 6)⟩,
    ⟨none, .mov (.r 7)⟩,
    ⟨none, .mov (.r 10)⟩,
    ⟨none, .mov (.r 8)⟩,
    ⟨none, .vc 38 []⟩,
    ⟨none, .bsl 1 17 [.int .u8 0, .int .u32 0, .int .u32 0, .int .u32 0, .int .u32 0, .int .u32 0, .int .u32 0, .int .u32 0, .int .u32 0, .int .u32 0, .int .u32 0, .int .u32 0, .int .u32 0, .int .u32 0, .int .u32 0, .int .u32 0, .int .u32 0] [(0, 17, (.l 0))]⟩,
    ⟨none, .app 17 (.l 2) (.l 0)⟩,
    ⟨none, .hc (.v (.c (.d (.fn 29 [] [])))) [(.l 4), (.l 0)]⟩,
    ⟨none, .ixa 8 (.l 7) (.l 6)⟩,
    ⟨none, .st 8 (.l 0) (.l 1)⟩] [] []))))))) (
  .reg false [⟨none, .bin .add (.r 14) (.v (.c (.d (.int .i64 1))))⟩,
    ⟨none, .mov (.l 0)⟩] [(14, 0)] [])))))))) (
  .seq (.reg false [⟨none, .mov (.r 6)⟩,
    ⟨none, .vc 30 []⟩,
    ⟨none, .mov (.l 1)⟩,
    ⟨none, .st 4 (.r 4) (.l 1)⟩,
    ⟨none, .mov (.v (.c (.d (.int .i64 0))))⟩] [(3, 2), (5, 0)] []) (
  .ret)))))⟩

/-- vidimus/families.LongGraph -/
def fn18 : Fn := ⟨3, 11, [0, 1, 2, 6, 7, 8, 9, 14, 16, 17, 18], [.r 3, .r 4, .r 5],
  .seq (.reg false [⟨none, .mov (.v (.c (.d (.int .i64 0))))⟩,
    ⟨none, .mov (.v (.c (.d (.int .i64 0))))⟩,
    ⟨none, .mov (.v (.c (.d (.int .i64 0))))⟩] [(3, 2), (4, 1), (5, 0)] []) (
  .seq (.seq (.reg false [⟨none, .mov (.r 0)⟩,
    ⟨none, .mov (.r 1)⟩,
    ⟨none, .mov (.r 2)⟩,
    ⟨none, .vc 37 [(.l 2), (.l 1), (.l 0)]⟩,
    ⟨none, .un .not (.l 0)⟩] [(7, 0)] []) (
  .cond (.r 7) (
  .seq (.reg false [⟨none, .mov (.v (.c (.d (.int .i64 0))))⟩,
    ⟨none, .mov (.v (.c (.d (.int .i64 0))))⟩,
    ⟨none, .mov (.v (.c (.d (.int .i64 1))))⟩] [(3, 2), (4, 1), (5, 0)] []) (
  .ret)) (
  .skip))) (
  .seq (.seq (.reg false [⟨none, .mov (.r 0)⟩,
    ⟨none, .bin .add (.l 0) (.v (.c (.d (.int .i64 1))))⟩,
    ⟨none, .mov (.v (.c (.d (.int .i64 0))))⟩] [(8, 1), (9, 0)] []) (
  .block 0 (
  .loop (some [0, 1, 2, 3, 8, 9]) (
  .seq (.reg false [⟨none, .bin .lss (.r 9) (.r 8)⟩] [(10, 0)] []) (
  .seq (.cond (.r 10) (
  .skip) (
  .exit 0)) (
  .seq (.block 1 (
  .seq (.reg false [⟨none, .mov (.r 9)⟩,
    ⟨none, .mov (.l 0)⟩] [(6, 0)] []) (
  .reg false [⟨none, .mov (.r 3)⟩,
    ⟨none, .mov (.r 0)⟩,
    ⟨none, .mov (.r 1)⟩,
    ⟨none, .mov (.r 2)⟩,
    ⟨none, .mov (.r 6)⟩,
    ⟨none, .vc 39 [(.l 3), (.l 2), (.l 1), (.l 0)]⟩,
    ⟨none, .bin .add (.l 5) (.l 0)⟩,
    ⟨none, .mov (.l 0)⟩] [(3, 0)] []))) (
  .reg false [⟨none, .bin .add (.r 9) (.v (.c (.d (.int .i64 1))))⟩,
    ⟨none, .mov (.l 0)⟩] [(9, 0)] []))))))) (
  .seq (.reg false [⟨none, .mov (.r 3)⟩,
    ⟨none, .mov (.r 3)⟩,
    ⟨none, .bin .sub (.l 0) (.v (.c (.d (.int .i64 1))))⟩,
    ⟨none, .mov (.l 2)⟩,
    ⟨none, .mov (.l 1)⟩,
    ⟨none, .mov (.v (.c (.d (.int .i64 0))))⟩] [(3, 2), (4, 1), (5, 0)] []) (
  .ret))))⟩

/-- vidimus/families.LongLevel -/
def fn19 : Fn := ⟨4, 7, [0, 1, 2, 3, 8, 9, 20], [.r 4, .r 5],
  .seq (.reg false [⟨none, .mov (.v (.c (.d (.int .i64 0))))⟩,
    ⟨none, .mov (.v (.c (.d (.int .i64 0))))⟩] [(4, 1), (5, 0)] []) (
  .seq (.seq (.reg false [⟨none, .mov (.r 0)⟩,
    ⟨none, .mov (.r 1)⟩,
    ⟨none, .mov (.r 2)⟩,
    ⟨none, .vc 37 [(.l 2), (.l 1), (.l 0)]⟩,
    ⟨none, .un .not (.l 0)⟩,
    ⟨none, .mov (.l 0)⟩,
    ⟨some (0, false), .mov (.r 3)⟩,
    ⟨some (1, false), .mov (.r 0)⟩,
    ⟨some (2, false), .vc 27 [(.l 1), (.v (.c (.d (.int .i64 0)))), (.l 0)]⟩,
    ⟨some (3, false), .un .not (.l 0)⟩,
    ⟨none, .pick (.l 4) (.v (.c (.d (.bool true)))) (.l 0)⟩] [(6, 0)] []) (
  .cond (.r 6) (
  .seq (.reg false [⟨none, .mov (.v (.c (.d (.int .i64 0))))⟩,
    ⟨none, .mov (.v (.c (.d (.int .i64 1))))⟩] [(4, 1), (5, 0)] []) (
  .ret)) (
  .skip))) (
  .seq (.reg false [⟨none, .mov (.r 0)⟩,
    ⟨none, .mov (.r 1)⟩,
    ⟨none, .mov (.r 2)⟩,
    ⟨none, .mov (.r 3)⟩,
    ⟨none, .vc 39 [(.l 3), (.l 2), (.l 1), (.l 0)]⟩,
    ⟨none, .mov (.l 0)⟩,
    ⟨none, .mov (.v (.c (.d (.int .i64 0))))⟩] [(4, 1), (5, 0)] []) (
  .ret)))⟩

/-- vidimus/vidimusref35.Long -/
def fn20 : Fn := ⟨3, 12, [0, 1, 2, 6, 7, 8, 9, 10, 11, 14, 20, 33], [.r 3],
  .seq (.reg false [⟨none, .mov (.v (.c (.d (.nils))))⟩] [(3, 0)] []) (
  .seq (.reg false [⟨none, .mov (.v (.c (.d (.nils))))⟩] [(4, 0)] []) (
  .seq (.seq (.reg false [⟨none, .mov (.v (.c (.d (.int .i64 1))))⟩] [(5, 0)] []) (
  .block 0 (
  .seq (.fresh 4 none 8) (
  .loop (some [0, 1, 2, 4, 5]) (
  .seq (.seq (.reg false [⟨none, .mov (.r 5)⟩,
    ⟨none, .mov (.r 0)⟩,
    ⟨none, .bin .leq (.l 1) (.l 0)⟩] [(9, 0)] []) (
  .cond (.r 9) (
  .skip) (
  .exit 0))) (
  .seq (.block 1 (
  .seq (.reg false [⟨none, .vc 33 []⟩,
    ⟨none, .pre⟩,
    ⟨none, .ini 8 (.l 1)⟩] [(6, 0)] []) (
  .seq (.seq (.reg false [⟨none, .mov (.v (.c (.d (.int .i64 1))))⟩] [(7, 0)] []) (
  .block 2 (
  .loop (some [0, 1, 2, 4, 5, 6, 7]) (
  .seq (.seq (.reg false [⟨none, .mov (.r 7)⟩,
    ⟨none, .mov (.r 1)⟩,
    ⟨none, .bin .leq (.l 1) (.l 0)⟩] [(10, 0)] []) (
  .cond (.r 10) (
  .skip) (
  .exit 2))) (
  .seq (.block 3 (
  .reg true [⟨none, .ld true 8 (.r 6)⟩,
    ⟨none, .mov (.r 5)⟩,
    ⟨none, .mov (.r 7)⟩,
    ⟨none, .vc 26 [(.l 1), (.l 0)]⟩,
    ⟨none, .hc (.v (.c (.d (.fn 34 [] [])))) [(.l 3), (.l 0)]⟩,
    ⟨none, .st 8 (.r 6) (.l 0)⟩] [] [])) (
  .reg false [⟨none, .mov (.r 7)⟩,
    ⟨none, .bin .add (.l 0) (.v (.c (.d (.int .i64 1))))⟩,
    ⟨none, .mov (.l 0)⟩] [(7, 0)] [])))))) (
  .seq (.reg true [⟨none, .ld true 8 (.r 6)⟩,
    ⟨none, .vc 40 []⟩,
    ⟨none, .hc (.v (.c (.d (.fn 34 [] [])))) [(.l 1), (.l 0)]⟩,
    ⟨none, .st 8 (.r 6) (.l 0)⟩] [] []) (
  .seq (.seq (.reg false [⟨none, .mov (.v (.c (.d (.int .i64 1))))⟩] [(8, 0)] []) (
  .block 4 (
  .loop (some [0, 1, 2, 4, 5, 6, 8]) (
  .seq (.seq (.reg false [⟨none, .mov (.r 8)⟩,
    ⟨none, .mov (.r 2)⟩,
    ⟨none, .bin .leq (.l 1) (.l 0)⟩] [(11, 0)] []) (
  .cond (.r 11) (
  .skip) (
  .exit 4))) (
  .seq (.block 5 (
  .reg true [⟨none, .ld true 8 (.r 6)⟩,
    ⟨none, .mov (.r 5)⟩,
    ⟨none, .mov (.r 1)⟩,
    ⟨none, .mov (.r 8)⟩,
    ⟨none, .bin .add (.l 1) (.l 0)⟩,
    ⟨none, .vc 26 [(.l 3), (.l 0)]⟩,
    ⟨none, .mov (.r 5)⟩,
    ⟨none, .mov (.r 1)⟩,
    ⟨none, .mov (.r 2)⟩,
    ⟨none, .bin .add (.l 1) (.l 0)⟩,
    ⟨none, .mov (.r 8)⟩,
    ⟨none, .bin .add (.l 1) (.l 0)⟩,
    ⟨none, .vc 26 [(.l 5), (.l 0)]⟩,
    ⟨none, .hc (.v (.c (.d (.fn 35 [] [])))) [(.l 12), (.l 7), (.l 0)]⟩,
    ⟨none, .st 8 (.r 6) (.l 0)⟩] [] [])) (
  .reg false [⟨none, .mov (.r 8)⟩,
    ⟨none, .bin .add (.l 0) (.v (.c (.d (.int .i64 1))))⟩,
    ⟨none, .mov (.l 0)⟩] [(8, 0)] [])))))) (
  .reg false [⟨none, .mov (.r 4)⟩,
    ⟨none, .ld true 8 (.r 6)⟩,
    ⟨none, .bsl 1 8 [.bool false, .bool false, .nils, .bool false, .nils, .int .i64 0, .int .i64 0, .int .i64 0] [(0, 8, (.l 0))]⟩,
    ⟨none, .app 8 (.l 2) (.l 0)⟩,
    ⟨none, .mov (.l 0)⟩] [(4, 0)] [])))))) (
  .reg false [⟨none, .mov (.r 5)⟩,
    ⟨none, .bin .add (.l 0) (.v (.c (.d (.int .i64 1))))⟩,
    ⟨none, .mov (.l 0)⟩] [(5, 0)] []))))))) (
  .seq (.reg false [⟨none, .mov (.r 4)⟩,
    ⟨none, .mov (.l 0)⟩] [(3, 0)] []) (
  .ret))))⟩

/-- vidimus/vidimusref35.Graph -/
def fn21 : Fn := ⟨2, 12, [0, 1, 3, 4, 5, 6, 7, 8, 9, 10, 18, 37], [.r 3, .r 4],
  .seq (.reg false [⟨none, .box (.r 1)⟩,
    ⟨none, .mov (.v (.c (.d (.nils))))⟩,
    ⟨none, .mov (.v (.c (.d (.int .i64 0))))⟩] [(2, 2), (3, 1), (4, 0)] []) (
  .seq (.reg false [⟨none, .mov (.r 0)⟩,
    ⟨none, .ld true 4 (.r 2)⟩,
    ⟨none, .vc 41 [(.l 1), (.l 0)]⟩,
    ⟨none, .pre⟩,
    ⟨none, .ini 9 (.l 1)⟩] [(5, 0)] []) (
  .seq (.reg false [⟨none, .mov (.v (.c (.d (.nils))))⟩] [(6, 0)] []) (
  .seq (.reg false [⟨none, .mov (.v (.c (.d (.int .i64 0))))⟩] [(7, 0)] []) (
  .seq (.seq (.reg false [⟨none, .mov (.v (.c (.d (.int .i64 0))))⟩] [(8, 0)] []) (
  .block 0 (
  .seq (.fresh 6 none 1) (
  .loop (some [5, 6, 7, 8]) (
  .seq (.seq (.reg false [⟨none, .mov (.r 8)⟩,
    ⟨none, .fa 0 (.r 5)⟩,
    ⟨none, .ld false 1 (.l 0)⟩,
    ⟨none, .len (.l 0)⟩,
    ⟨none, .bin .lss (.l 3) (.l 0)⟩] [(10, 0)] []) (
  .cond (.r 10) (
  .skip) (
  .exit 0))) (
  .seq (.block 1 (
  .seq (.reg false [⟨none, .mov (.r 6)⟩,
    ⟨none, .fa 0 (.r 5)⟩,
    ⟨none, .ld false 1 (.l 0)⟩,
    ⟨none, .mov (.r 8)⟩,
    ⟨none, .ixa 1 (.l 1) (.l 0)⟩,
    ⟨none, .ld false 1 (.l 0)⟩,
    ⟨none, .len (.l 0)⟩,
    ⟨none, .bsl 1 1 [.int .i64 0] [(0, 1, (.l 0))]⟩,
    ⟨none, .app 1 (.l 7) (.l 0)⟩,
    ⟨none, .mov (.l 0)⟩] [(6, 0)] []) (
  .seq (.reg false [⟨none, .mov (.v (.c (.d (.int .i64 0))))⟩] [(9, 0)] []) (
  .block 2 (
  .loop (some [5, 6, 7, 8, 9]) (
  .seq (.seq (.reg false [⟨none, .mov (.r 9)⟩,
    ⟨none, .fa 0 (.r 5)⟩,
    ⟨none, .ld false 1 (.l 0)⟩,
    ⟨none, .mov (.r 8)⟩,
    ⟨none, .ixa 1 (.l 1) (.l 0)⟩,
    ⟨none, .ld false 1 (.l 0)⟩,
    ⟨none, .len (.l 0)⟩,
    ⟨none, .bin .lss (.l 6) (.l 0)⟩] [(11, 0)] []) (
  .cond (.r 11) (
  .skip) (
  .exit 2))) (
  .seq (.block 3 (
  .reg false [⟨none, .mov (.r 7)⟩,
    ⟨none, .fa 0 (.r 5)⟩,
    ⟨none, .ld false 1 (.l 0)⟩,
    ⟨none, .mov (.r 8)⟩,
    ⟨none, .ixa 1 (.l 1) (.l 0)⟩,
    ⟨none, .ld false 1 (.l 0)⟩,
    ⟨none, .mov (.r 9)⟩,
    ⟨none, .ixa 20 (.l 1) (.l 0)⟩,
    ⟨none, .fa 17 (.l 0)⟩,
    ⟨none, .ld false 1 (.l 0)⟩,
    ⟨none, .len (.l 0)⟩,
    ⟨none, .bin .add (.l 10) (.l 0)⟩,
    ⟨none, .mov (.l 0)⟩] [(7, 0)] [])) (
  .reg false [⟨none, .mov (.r 9)⟩,
    ⟨none, .bin .add (.l 0) (.v (.c (.d (.int .i64 1))))⟩,
    ⟨none, .mov (.l 0)⟩] [(9, 0)] [])))))))) (
  .reg false [⟨none, .mov (.r 8)⟩,
    ⟨none, .bin .add (.l 0) (.v (.c (.d (.int .i64 1))))⟩,
    ⟨none, .mov (.l 0)⟩] [(8, 0)] []))))))) (
  .seq (.reg false [⟨none, .mov (.r 6)⟩,
    ⟨none, .mov (.r 7)⟩,
    ⟨none, .mov (.l 1)⟩,
    ⟨none, .mov (.l 1)⟩] [(3, 1), (4, 0)] []) (
  .ret))))))⟩

/-- vidimus/vidimusref35.Inputs -/
def fn22 : Fn := ⟨0, 1, [0], [.cell 0 4 true],
  .seq (.reg false [⟨none, .new [.nils, .bool false, .bool false, .bool false]⟩] [(0, 0)] []) (
  .seq (.reg false [⟨none, .vc 40 []⟩,
    ⟨none, .bsl 1 17 [.int .u8 0, .int .u32 0, .int .u32 0, .int .u32 0, .int .u32 0, .int .u32 0, .int .u32 0, .int .u32 0, .int .u32 0, .int .u32 0, .int .u32 0, .int .u32 0, .int .u32 0, .int .u32 0, .int .u32 0, .int .u32 0, .int .u32 0] [(0, 17, (.l 0))]⟩,
    ⟨none, .bld [.nils, .bool false, .bool false, .bool false] [(0, 1, (.l 0)), (1, 1, (.v (.c (.d (.bool true)))))]⟩,
    ⟨none, .st 4 (.r 0) (.l 0)⟩] [] []) (
  .ret))⟩

/-- vidimus/vidimusref35.Times -/
def fn23 : Fn := ⟨3, 9, [0, 1, 2, 6, 7, 8, 9, 15, 38], [.r 3],
  .seq (.reg false [⟨none, .mov (.v (.c (.d (.str []))))⟩] [(3, 0)] []) (
  .seq (.reg false [⟨none, .mov (.v (.c (.d (.str []))))⟩] [(4, 0)] []) (
  .seq (.reg false [⟨none, .mov (.r 2)⟩,
    ⟨none, .mov (.l 0)⟩] [(5, 0)] []) (
  .seq (.seq (.reg false [⟨none, .mov (.r 0)⟩,
    ⟨none, .lns (.l 0)⟩,
    ⟨none, .bin .sub (.l 0) (.v (.c (.d (.int .i64 1))))⟩,
    ⟨none, .mov (.l 0)⟩] [(6, 0)] []) (
  .block 0 (
  .loop (some [0, 1, 4, 5, 6]) (
  .seq (.seq (.reg false [⟨none, .mov (.r 6)⟩,
    ⟨none, .bin .geq (.l 0) (.v (.c (.d (.int .i64 0))))⟩] [(7, 0)] []) (
  .cond (.r 7) (
  .skip) (
  .exit 0))) (
  .seq (.block 1 (
  .seq (.reg false [⟨none, .mov (.r 5)⟩,
    ⟨none, .mov (.r 0)⟩,
    ⟨none, .mov (.r 6)⟩,
    ⟨none, .ixs (.l 1) (.l 0)⟩,
    ⟨none, .bin .sub (.l 0) (.v (.c (.d (.int .u8 48))))⟩,
    ⟨none, .cvi .i64 (.l 0)⟩,
    ⟨none, .mov (.r 1)⟩,
    ⟨none, .bin .mul (.l 1) (.l 0)⟩,
    ⟨none, .bin .add (.l 7) (.l 0)⟩,
    ⟨none, .mov (.l 0)⟩] [(5, 0)] []) (
  .seq (.reg false [⟨none, .mov (.r 5)⟩,
    ⟨none, .bin .rem (.l 0) (.v (.c (.d (.int .i64 10))))⟩,
    ⟨none, .bin .add (.v (.c (.d (.int .i64 48)))) (.l 0)⟩,
    ⟨none, .cvi .u8 (.l 0)⟩,
    ⟨none, .bsl 1 1 [.int .u8 0] [(0, 1, (.l 0))]⟩,
    ⟨none, .b2s (.l 0)⟩,
    ⟨none, .mov (.r 4)⟩,
    ⟨none, .bin .add (.l 1) (.l 0)⟩,
    ⟨none, .mov (.l 0)⟩] [(4, 0)] []) (
  .reg false [⟨none, .mov (.r 5)⟩,
    ⟨none, .bin .quo (.l 0) (.v (.c (.d (.int .i64 10))))⟩,
    ⟨none, .mov (.l 0)⟩] [(5, 0)] [])))) (
  .reg false [⟨none, .mov (.r 6)⟩,
    ⟨none, .bin .sub (.l 0) (.v (.c (.d (.int .i64 1))))⟩,
    ⟨none, .mov (.l 0)⟩] [(6, 0)] [])))))) (
  .seq (.block 2 (
  .loop (some [4, 5]) (
  .seq (.seq (.reg false [⟨none, .mov (.r 5)⟩,
    ⟨none, .bin .gtr (.l 0) (.v (.c (.d (.int .i64 0))))⟩] [(8, 0)] []) (
  .cond (.r 8) (
  .skip) (
  .exit 2))) (
  .block 3 (
  .seq (.reg false [⟨none, .mov (.r 5)⟩,
    ⟨none, .bin .rem (.l 0) (.v (.c (.d (.int .i64 10))))⟩,
    ⟨none, .bin .add (.v (.c (.d (.int .i64 48)))) (.l 0)⟩,
    ⟨none, .cvi .u8 (.l 0)⟩,
    ⟨none, .bsl 1 1 [.int .u8 0] [(0, 1, (.l 0))]⟩,
    ⟨none, .b2s (.l 0)⟩,
    ⟨none, .mov (.r 4)⟩,
    ⟨none, .bin .add (.l 1) (.l 0)⟩,
    ⟨none, .mov (.l 0)⟩] [(4, 0)] []) (
  .reg false [⟨none, .mov (.r 5)⟩,
    ⟨none, .bin .quo (.l 0) (.v (.c (.d (.int .i64 10))))⟩,
    ⟨none, .mov (.l 0)⟩] [(5, 0)] [])))))) (
  .seq (.reg false [⟨none, .mov (.r 4)⟩,
    ⟨none, .mov (.l 0)⟩] [(3, 0)] []) (
  .ret))))))⟩

/-- vidimus/vidimusref35.Above -/
def fn24 : Fn := ⟨2, 4, [0, 1, 4, 9], [.r 2],
  .seq (.reg false [⟨none, .mov (.v (.c (.d (.bool false))))⟩] [(2, 0)] []) (
  .seq (.seq (.reg false [⟨none, .mov (.r 0)⟩,
    ⟨none, .lns (.l 0)⟩,
    ⟨none, .mov (.r 1)⟩,
    ⟨none, .lns (.l 0)⟩,
    ⟨none, .bin .neq (.l 2) (.l 0)⟩] [(3, 0)] []) (
  .cond (.r 3) (
  .seq (.reg false [⟨none, .mov (.r 0)⟩,
    ⟨none, .lns (.l 0)⟩,
    ⟨none, .mov (.r 1)⟩,
    ⟨none, .lns (.l 0)⟩,
    ⟨none, .bin .gtr (.l 2) (.l 0)⟩,
    ⟨none, .mov (.l 0)⟩] [(2, 0)] []) (
  .ret)) (
  .skip))) (
  .seq (.reg false [⟨none, .mov (.r 0)⟩,
    ⟨none, .mov (.r 1)⟩,
    ⟨none, .bin .gtr (.l 1) (.l 0)⟩,
    ⟨none, .mov (.l 0)⟩] [(2, 0)] []) (
  .ret)))⟩

/-- vidimus/families.Policy -/
def fn25 : Fn := ⟨2, 5, [0, 1, 4, 5, 13], [.cell 2 17 true, .r 3],
  .seq (.reg false [⟨none, .new [.int .u8 0, .int .u32 0, .int .u32 0, .int .u32 0, .int .u32 0, .int .u32 0, .int .u32 0, .int .u32 0, .int .u32 0, .int .u32 0, .int .u32 0, .int .u32 0, .int .u32 0, .int .u32 0, .int .u32 0, .int .u32 0, .int .u32 0]⟩,
    ⟨none, .mov (.v (.c (.d (.int .i64 0))))⟩] [(2, 1), (3, 0)] []) (
  .seq (.seq (.reg false [⟨none, .mov (.r 0)⟩,
    ⟨none, .vc 27 [(.l 0), (.v (.c (.d (.int .i64 0)))), (.v (.c (.d (.int .i64 65535))))]⟩,
    ⟨none, .un .not (.l 0)⟩,
    ⟨none, .mov (.l 0)⟩,
    ⟨some (0, false), .mov (.r 1)⟩,
    ⟨some (1, false), .vc 27 [(.l 0), (.v (.c (.d (.int .i64 0)))), (.v (.c (.d (.int .i64 65535))))]⟩,
    ⟨some (2, false), .un .not (.l 0)⟩,
    ⟨none, .pick (.l 3) (.v (.c (.d (.bool true)))) (.l 0)⟩] [(4, 0)] []) (
  .cond (.r 4) (
  .seq (.reg false [⟨none, .bld [.int .u8 0, .int .u32 0, .int .u32 0, .int .u32 0, .int .u32 0, .int .u32 0, .int .u32 0, .int .u32 0, .int .u32 0, .int .u32 0, .int .u32 0, .int .u32 0, .int .u32 0, .int .u32 0, .int .u32 0, .int .u32 0, .int .u32 0] []⟩,
    ⟨none, .st 17 (.r 2) (.l 0)⟩,
    ⟨none, .mov (.v (.c (.d (.int .i64 1))))⟩] [(3, 0)] []) (
  .ret)) (
  .skip))) (
  .seq (.reg false [⟨none, .mov (.r 0)⟩,
    ⟨none, .mov (.r 1)⟩,
    ⟨none, .vc 28 [(.l 1), (.l 0)]⟩,
    ⟨none, .st 17 (.r 2) (.l 0)⟩,
    ⟨none, .mov (.v (.c (.d (.int .i64 0))))⟩] [(3, 0)] []) (
  .ret)))⟩

/-- vidimus/vidimusref35.Policy -/
def fn26 : Fn := ⟨2, 3, [0, 1, 4], [.cell 2 17 true],
  .seq (.reg false [⟨none, .new [.int .u8 0, .int .u32 0, .int .u32 0, .int .u32 0, .int .u32 0, .int .u32 0, .int .u32 0, .int .u32 0, .int .u32 0, .int .u32 0, .int .u32 0, .int .u32 0, .int .u32 0, .int .u32 0, .int .u32 0, .int .u32 0, .int .u32 0]⟩] [(2, 0)] []) (
  .seq (.reg false [⟨none, .mov (.r 0)⟩,
    ⟨none, .cvi .u32 (.l 0)⟩,
    ⟨none, .mov (.r 1)⟩,
    ⟨none, .cvi .u32 (.l 0)⟩,
    ⟨none, .bld [.int .u32 0, .int .u32 0, .int .u32 0, .int .u32 0, .int .u32 0, .int .u32 0, .int .u32 0, .int .u32 0, .int .u32 0, .int .u32 0, .int .u32 0, .int .u32 0, .int .u32 0, .int .u32 0, .int .u32 0, .int .u32 0] [(0, 1, (.v (.c (.d (.int .u32 1))))), (1, 1, (.v (.c (.d (.int .u32 3))))), (2, 1, (.v (.c (.d (.int .u32 6))))), (3, 1, (.v (.c (.d (.int .u32 1))))), (4, 1, (.v (.c (.d (.int .u32 4))))), (5, 1, (.v (.c (.d (.int .u32 1))))), (6, 1, (.v (.c (.d (.int .u32 99))))), (7, 1, (.l 2)), (8, 1, (.l 0))]⟩,
    ⟨none, .bld [.int .u8 0, .int .u32 0, .int .u32 0, .int .u32 0, .int .u32 0, .int .u32 0, .int .u32 0, .int .u32 0, .int .u32 0, .int .u32 0, .int .u32 0, .int .u32 0, .int .u32 0, .int .u32 0, .int .u32 0, .int .u32 0, .int .u32 0] [(0, 1, (.v (.c (.d (.int .u8 9))))), (1, 16, (.l 0))]⟩,
    ⟨none, .st 17 (.r 2) (.l 0)⟩] [] []) (
  .ret))⟩

/-- vidimus/families.within -/
def fn27 : Fn := ⟨3, 4, [0, 1, 2, 6], [.r 3],
  .seq (.reg false [⟨none, .mov (.v (.c (.d (.bool false))))⟩] [(3, 0)] []) (
  .seq (.reg false [⟨none, .mov (.r 0)⟩,
    ⟨none, .mov (.r 1)⟩,
    ⟨none, .bin .geq (.l 1) (.l 0)⟩,
    ⟨none, .mov (.l 0)⟩,
    ⟨some (0, true), .mov (.r 0)⟩,
    ⟨some (1, true), .mov (.r 2)⟩,
    ⟨some (2, true), .bin .leq (.l 1) (.l 0)⟩,
    ⟨none, .pick (.l 3) (.l 0) (.v (.c (.d (.bool false))))⟩,
    ⟨none, .mov (.l 0)⟩] [(3, 0)] []) (
  .ret))⟩

/-- vidimus/families.policy -/
def fn28 : Fn := ⟨2, 3, [0, 1, 4], [.cell 2 17 true],
  .seq (.reg false [⟨none, .new [.int .u8 0, .int .u32 0, .int .u32 0, .int .u32 0, .int .u32 0, .int .u32 0, .int .u32 0, .int .u32 0, .int .u32 0, .int .u32 0, .int .u32 0, .int .u32 0, .int .u32 0, .int .u32 0, .int .u32 0, .int .u32 0, .int .u32 0]⟩] [(2, 0)] []) (
  .seq (.reg false [⟨none, .mov (.r 0)⟩,
    ⟨none, .cvi .u32 (.l 0)⟩,
    ⟨none, .mov (.r 1)⟩,
    ⟨none, .cvi .u32 (.l 0)⟩,
    ⟨none, .bsl 9 1 [.int .u32 0] [(0, 1, (.v (.c (.d (.int .u32 1))))), (1, 1, (.v (.c (.d (.int .u32 3))))), (2, 1, (.v (.c (.d (.int .u32 6))))), (3, 1, (.v (.c (.d (.int .u32 1))))), (4, 1, (.v (.c (.d (.int .u32 4))))), (5, 1, (.v (.c (.d (.int .u32 1))))), (6, 1, (.v (.c (.d (.int .u32 99))))), (7, 1, (.l 2)), (8, 1, (.l 0))]⟩,
    ⟨none, .vc 42 [(.l 0)]⟩,
    ⟨none, .st 17 (.r 2) (.l 0)⟩] [] []) (
  .ret))⟩

/-- vidimus/families.certificate -/
def fn29 : Fn := ⟨2, 10, [0, 1, 4, 5, 6, 7, 17, 18, 19, 20], [.cell 2 8 true],
  .seq (.reg false [⟨none, .new [.bool false, .bool false, .nils, .bool false, .nils, .int .i64 0, .int .i64 0, .int .i64 0]⟩] [(2, 0)] []) (
  .seq (.reg false [⟨none, .mov (.r 0)⟩,
    ⟨none, .len (.l 0)⟩,
    ⟨none, .bin .gtr (.l 0) (.v (.c (.d (.int .i64 0))))⟩,
    ⟨none, .mov (.r 0)⟩,
    ⟨none, .bld [.bool false, .bool false, .nils, .bool false, .nils, .int .i64 0, .int .i64 0, .int .i64 0] [(1, 1, (.v (.c (.d (.bool true))))), (3, 1, (.l 1)), (4, 1, (.l 0)), (5, 1, (.v (.c (.d (.int .i64 (-1)))))), (6, 1, (.v (.c (.d (.int .i64 (-1)))))), (7, 1, (.v (.c (.d (.int .i64 (-1))))))]⟩,
    ⟨none, .pre⟩,
    ⟨none, .ini 8 (.l 1)⟩] [(3, 0)] []) (
  .seq (.reg false [⟨none, .mov (.r 1)⟩,
    ⟨none, .len (.l 0)⟩,
    ⟨none, .mks 18 96 [.int .u8 0, .int .u32 0, .int .u32 0, .int .u32 0, .int .u32 0, .int .u32 0, .int .u32 0, .int .u32 0, .int .u32 0, .int .u32 0, .int .u32 0, .int .u32 0, .int .u32 0, .int .u32 0, .int .u32 0, .int .u32 0, .int .u32 0, .nils] (.l 0) (.l 0)⟩,
    ⟨none, .fa 2 (.r 3)⟩,
    ⟨none, .st 1 (.l 0) (.l 1)⟩] [] []) (
  .seq (.seq (.reg false [⟨none, .mov (.r 1)⟩,
    ⟨none, .len (.l 0)⟩,
    ⟨none, .mov (.v (.c (.d (.int .i64 0))))⟩] [(6, 2), (7, 1), (8, 0)] []) (
  .block 0 (
  .loop (some [2, 3, 6, 7, 8]) (
  .seq (.reg false [⟨none, .bin .lss (.r 8) (.r 7)⟩] [(9, 0)] []) (
  .seq (.cond (.r 9) (
  .skip) (
  .exit 0)) (
  .seq (.block 1 (
  .seq (.reg false [⟨none, .mov (.r 8)⟩,
    ⟨none, .ixa 17 (.r 6) (.r 8)⟩,
    ⟨none, .ld true 17 (.l 0)⟩,
    ⟨none, .pre⟩,
    ⟨none, .mov (.l 3)⟩,
    ⟨none, .ini 17 (.l 2)⟩] [(4, 1), (5, 0)] []) (
  .reg false [⟨none, .fa 2 (.r 3)⟩,
    ⟨none, .ld false 1 (.l 0)⟩,
    ⟨none, .mov (.r 4)⟩,
    ⟨none, .ld true 17 (.r 5)⟩,
    ⟨none, .ixa 18 (.l 2) (.l 1)⟩,
    ⟨none, .fa 0 (.l 0)⟩,
    ⟨none, .st 17 (.l 0) (.l 2)⟩] [] []))) (
  .reg false [⟨none, .bin .add (.r 8) (.v (.c (.d (.int .i64 1))))⟩,
    ⟨none, .mov (.l 0)⟩] [(8, 0)] []))))))) (
  .seq (.reg false [⟨none, .ld true 8 (.r 3)⟩,
    ⟨none, .st 8 (.r 2) (.l 0)⟩] [] []) (
  .ret)))))⟩

/-- vidimus/families.inputs -/
def fn30 : Fn := ⟨0, 1, [0], [.cell 0 4 true],
  .seq (.reg false [⟨none, .new [.nils, .bool false, .bool false, .bool false]⟩] [(0, 0)] []) (
  .seq (.reg false [⟨none, .vc 38 []⟩,
    ⟨none, .bsl 1 17 [.int .u8 0, .int .u32 0, .int .u32 0, .int .u32 0, .int .u32 0, .int .u32 0, .int .u32 0, .int .u32 0, .int .u32 0, .int .u32 0, .int .u32 0, .int .u32 0, .int .u32 0, .int .u32 0, .int .u32 0, .int .u32 0, .int .u32 0] [(0, 17, (.l 0))]⟩,
    ⟨none, .bld [.nils, .bool false, .bool false, .bool false] [(0, 1, (.l 0)), (1, 1, (.v (.c (.d (.bool true)))))]⟩,
    ⟨none, .st 4 (.r 0) (.l 0)⟩] [] []) (
  .ret))⟩

/-- slices.Reverse[[]byte,byte] -/
def fn31 : Fn := ⟨1, 4, [0, 2, 3, 9], [],
  .seq (.reg false [⟨none, .mov (.r 0)⟩,
    ⟨none, .len (.l 0)⟩,
    ⟨none, .bin .sub (.l 0) (.v (.c (.d (.int .i64 1))))⟩,
    ⟨none, .mov (.v (.c (.d (.int .i64 0))))⟩,
    ⟨none, .mov (.l 1)⟩] [(1, 1), (2, 0)] []) (
  .block 0 (
  .loop (some [0, 1, 2]) (
  .seq (.seq (.reg false [⟨none, .mov (.r 1)⟩,
    ⟨none, .mov (.r 2)⟩,
    ⟨none, .bin .lss (.l 1) (.l 0)⟩] [(3, 0)] []) (
  .cond (.r 3) (
  .skip) (
  .exit 0))) (
  .seq (.block 1 (
  .reg true [⟨none, .mov (.r 0)⟩,
    ⟨none, .mov (.r 1)⟩,
    ⟨none, .mov (.r 0)⟩,
    ⟨none, .mov (.r 2)⟩,
    ⟨none, .mov (.r 0)⟩,
    ⟨none, .mov (.r 2)⟩,
    ⟨none, .ixa 1 (.l 1) (.l 0)⟩,
    ⟨none, .ld false 1 (.l 0)⟩,
    ⟨none, .mov (.r 0)⟩,
    ⟨none, .mov (.r 1)⟩,
    ⟨none, .ixa 1 (.l 1) (.l 0)⟩,
    ⟨none, .ld false 1 (.l 0)⟩,
    ⟨none, .ixa 1 (.l 11) (.l 10)⟩,
    ⟨none, .st 1 (.l 0) (.l 5)⟩,
    ⟨none, .ixa 1 (.l 11) (.l 10)⟩,
    ⟨none, .st 1 (.l 0) (.l 3)⟩] [] [])) (
  .reg false [⟨none, .mov (.r 1)⟩,
    ⟨none, .bin .add (.l 0) (.v (.c (.d (.int .i64 1))))⟩,
    ⟨none, .mov (.r 2)⟩,
    ⟨none, .bin .sub (.l 0) (.v (.c (.d (.int .i64 1))))⟩,
    ⟨none, .mov (.l 2)⟩,
    ⟨none, .mov (.l 1)⟩] [(1, 1), (2, 0)] [])))))⟩

/-- vidimus/oids.Text -/
def fn32 : Fn := ⟨1, 11, [0, 1, 2, 3, 4, 5, 8, 12, 13, 14, 15], [.r 2],
  .seq (.reg false [⟨none, .box (.r 0)⟩,
    ⟨none, .mov (.v (.c (.d (.str []))))⟩] [(1, 1), (2, 0)] []) (
  .seq (.seq (.reg false [⟨none, .ld true 17 (.r 1)⟩,
    ⟨none, .vc 43 [(.l 0)]⟩,
    ⟨none, .bin .neq (.l 0) (.v (.c (.d (.int .i64 0))))⟩] [(6, 0)] []) (
  .cond (.r 6) (
  .seq (.reg false [⟨none, .mov (.v (.c (.d (.str [63]))))⟩] [(2, 0)] []) (
  .ret)) (
  .skip))) (
  .seq (.reg false [⟨none, .fa 0 (.r 1)⟩,
    ⟨none, .ld false 1 (.l 0)⟩,
    ⟨none, .mks 1 16 [.str []] (.l 0) (.l 0)⟩,
    ⟨none, .mov (.l 0)⟩] [(3, 0)] []) (
  .seq (.seq (.reg false [⟨none, .hc (.v (.c (.d (.fn 44 [] [])))) [(.r 1)]⟩,
    ⟨none, .len (.l 0)⟩,
    ⟨none, .mov (.v (.c (.d (.int .i64 0))))⟩] [(7, 2), (8, 1), (9, 0)] []) (
  .block 0 (
  .loop (some [3, 7, 8, 9]) (
  .seq (.reg false [⟨none, .bin .lss (.r 9) (.r 8)⟩] [(10, 0)] []) (
  .seq (.cond (.r 10) (
  .skip) (
  .exit 0)) (
  .seq (.block 1 (
  .seq (.reg false [⟨none, .mov (.r 9)⟩,
    ⟨none, .ixa 1 (.r 7) (.r 9)⟩,
    ⟨none, .ld false 1 (.l 0)⟩,
    ⟨none, .mov (.l 2)⟩,
    ⟨none, .mov (.l 1)⟩] [(4, 1), (5, 0)] []) (
  .reg false [⟨none, .mov (.r 3)⟩,
    ⟨none, .mov (.r 4)⟩,
    ⟨none, .mov (.r 5)⟩,
    ⟨none, .cvi .u64 (.l 0)⟩,
    ⟨none, .vc 45 [(.l 0), (.v (.c (.d (.int .i64 10))))]⟩,
    ⟨none, .ixa 1 (.l 4) (.l 3)⟩,
    ⟨none, .st 1 (.l 0) (.l 1)⟩] [] []))) (
  .reg false [⟨none, .bin .add (.r 9) (.v (.c (.d (.int .i64 1))))⟩,
    ⟨none, .mov (.l 0)⟩] [(9, 0)] []))))))) (
  .seq (.reg false [⟨none, .mov (.r 3)⟩,
    ⟨none, .pc 46 [(.l 0), (.v (.c (.d (.str [46]))))]⟩,
    ⟨none, .mov (.l 0)⟩] [(2, 0)] []) (
  .ret)))))⟩

/-- vidimus/vidimusref35.blank -/
def fn33 : Fn := ⟨0, 1, [0], [.cell 0 8 true],
  .seq (.reg false [⟨none, .new [.bool false, .bool false, .nils, .bool false, .nils, .int .i64 0, .int .i64 0, .int .i64 0]⟩] [(0, 0)] []) (
  .seq (.reg false [⟨none, .bld [.bool false, .bool false, .nils, .bool false, .nils, .int .i64 0, .int .i64 0, .int .i64 0] [(5, 1, (.v (.c (.d (.int .i64 (-1)))))), (6, 1, (.v (.c (.d (.int .i64 (-1)))))), (7, 1, (.v (.c (.d (.int .i64 (-1))))))]⟩,
    ⟨none, .st 8 (.r 0) (.l 0)⟩] [] []) (
  .ret))⟩

/-- vidimus/vidimusref35.list -/
def fn34 : Fn := ⟨2, 5, [0, 1, 2, 3, 4], [.cell 4 8 true],
  .seq (.reg false [⟨none, .box (.r 0)⟩,
    ⟨none, .box (.r 1)⟩,
    ⟨none, .new [.bool false, .bool false, .nils, .bool false, .nils, .int .i64 0, .int .i64 0, .int .i64 0]⟩] [(2, 2), (3, 1), (4, 0)] []) (
  .seq (.reg false [⟨none, .fa 1 (.r 2)⟩,
    ⟨none, .st 1 (.l 0) (.v (.c (.d (.bool true))))⟩] [] []) (
  .seq (.reg false [⟨none, .fa 2 (.r 2)⟩,
    ⟨none, .ld false 1 (.l 0)⟩,
    ⟨none, .ld true 17 (.r 3)⟩,
    ⟨none, .bld [.int .u8 0, .int .u32 0, .int .u32 0, .int .u32 0, .int .u32 0, .int .u32 0, .int .u32 0, .int .u32 0, .int .u32 0, .int .u32 0, .int .u32 0, .int .u32 0, .int .u32 0, .int .u32 0, .int .u32 0, .int .u32 0, .int .u32 0, .nils] [(0, 17, (.l 0))]⟩,
    ⟨none, .bsl 1 18 [.int .u8 0, .int .u32 0, .int .u32 0, .int .u32 0, .int .u32 0, .int .u32 0, .int .u32 0, .int .u32 0, .int .u32 0, .int .u32 0, .int .u32 0, .int .u32 0, .int .u32 0, .int .u32 0, .int .u32 0, .int .u32 0, .int .u32 0, .nils] [(0, 18, (.l 0))]⟩,
    ⟨none, .app 18 (.l 3) (.l 0)⟩,
    ⟨none, .fa 2 (.r 2)⟩,
    ⟨none, .st 1 (.l 0) (.l 1)⟩] [] []) (
  .seq (.reg false [⟨none, .ld true 8 (.r 2)⟩,
    ⟨none, .st 8 (.r 4) (.l 0)⟩] [] []) (
  .ret))))⟩

/-- vidimus/vidimusref35.pair -/
def fn35 : Fn := ⟨3, 7, [0, 1, 2, 3, 4, 5, 6], [.cell 6 8 true],
  .seq (.reg false [⟨none, .box (.r 0)⟩,
    ⟨none, .box (.r 1)⟩,
    ⟨none, .box (.r 2)⟩,
    ⟨none, .new [.bool false, .bool false, .nils, .bool false, .nils, .int .i64 0, .int .i64 0, .int .i64 0]⟩] [(3, 3), (4, 2), (5, 1), (6, 0)] []) (
  .seq (.reg false [⟨none, .fa 3 (.r 3)⟩,
    ⟨none, .st 1 (.l 0) (.v (.c (.d (.bool true))))⟩] [] []) (
  .seq (.reg false [⟨none, .fa 4 (.r 3)⟩,
    ⟨none, .ld false 1 (.l 0)⟩,
    ⟨none, .ld true 17 (.r 4)⟩,
    ⟨none, .ld true 17 (.r 5)⟩,
    ⟨none, .bld [.int .u8 0, .int .u32 0, .int .u32 0, .int .u32 0, .int .u32 0, .int .u32 0, .int .u32 0, .int .u32 0, .int .u32 0, .int .u32 0, .int .u32 0, .int .u32 0, .int .u32 0, .int .u32 0, .int .u32 0, .int .u32 0, .int .u32 0, .int .u8 0, .int .u32 0, .int .u32 0, .int .u32 0, .int .u32 0, .int .u32 0, .int .u32 0, .int .u32 0, .int .u32 0, .int .u32 0, .int .u32 0, .int .u32 0, .int .u32 0, .int .u32 0, .int .u32 0, .int .u32 0, .int .u32 0] [(0, 17, (.l 1)), (17, 17, (.l 0))]⟩,
    ⟨none, .bsl 1 34 [.int .u8 0, .int .u32 0, .int .u32 0, .int .u32 0, .int .u32 0, .int .u32 0, .int .u32 0, .int .u32 0, .int .u32 0, .int .u32 0, .int .u32 0, .int .u32 0, .int .u32 0, .int .u32 0, .int .u32 0, .int .u32 0, .int .u32 0, .int .u8 0, .int .u32 0, .int .u32 0, .int .u32 0, .int .u32 0, .int .u32 0, .int .u32 0, .int .u32 0, .int .u32 0, .int .u32 0, .int .u32 0, .int .u32 0, .int .u32 0, .int .u32 0, .int .u32 0, .int .u32 0, .int .u32 0] [(0, 34, (.l 0))]⟩,
    ⟨none, .app 34 (.l 4) (.l 0)⟩,
    ⟨none, .fa 4 (.r 3)⟩,
    ⟨none, .st 1 (.l 0) (.l 1)⟩] [] []) (
  .seq (.reg false [⟨none, .ld true 8 (.r 3)⟩,
    ⟨none, .st 8 (.r 6) (.l 0)⟩] [] []) (
  .ret))))⟩

/-- vidimus/vidimuslaw34.Same -/
def fn36 : Fn := ⟨2, 7, [0, 1, 4, 5, 10, 14, 25], [.r 2],
  .seq (.reg false [⟨none, .mov (.v (.c (.d (.int .i64 0))))⟩] [(2, 0)] []) (
  .seq (.seq (.reg false [⟨none, .mov (.r 0)⟩,
    ⟨none, .len (.l 0)⟩,
    ⟨none, .mov (.r 1)⟩,
    ⟨none, .len (.l 0)⟩,
    ⟨none, .bin .neq (.l 2) (.l 0)⟩] [(4, 0)] []) (
  .cond (.r 4) (
  .seq (.reg false [⟨none, .mov (.v (.c (.d (.int .i64 0))))⟩] [(2, 0)] []) (
  .ret)) (
  .skip))) (
  .seq (.seq (.reg false [⟨none, .mov (.v (.c (.d (.int .i64 0))))⟩] [(3, 0)] []) (
  .block 0 (
  .loop (some [0, 1, 3]) (
  .seq (.seq (.reg false [⟨none, .mov (.r 3)⟩,
    ⟨none, .mov (.r 0)⟩,
    ⟨none, .len (.l 0)⟩,
    ⟨none, .bin .lss (.l 2) (.l 0)⟩] [(5, 0)] []) (
  .cond (.r 5) (
  .skip) (
  .exit 0))) (
  .seq (.block 1 (
  .seq (.reg true [⟨none, .mov (.r 0)⟩,
    ⟨none, .mov (.r 3)⟩,
    ⟨none, .ixa 17 (.l 1) (.l 0)⟩,
    ⟨none, .ld true 17 (.l 0)⟩,
    ⟨none, .mov (.r 1)⟩,
    ⟨none, .mov (.r 3)⟩,
    ⟨none, .ixa 17 (.l 1) (.l 0)⟩,
    ⟨none, .ld true 17 (.l 0)⟩,
    ⟨none, .eqa true 17 (.l 4) (.l 0)⟩] [(6, 0)] []) (
  .cond (.r 6) (
  .seq (.reg false [⟨none, .mov (.v (.c (.d (.int .i64 0))))⟩] [(2, 0)] []) (
  .ret)) (
  .skip)))) (
  .reg false [⟨none, .mov (.r 3)⟩,
    ⟨none, .bin .add (.l 0) (.v (.c (.d (.int .i64 1))))⟩,
    ⟨none, .mov (.l 0)⟩] [(3, 0)] [])))))) (
  .seq (.reg false [⟨none, .mov (.v (.c (.d (.int .i64 1))))⟩] [(2, 0)] []) (
  .ret))))⟩

/-- vidimus/families.fits -/
def fn37 : Fn := ⟨3, 4, [0, 1, 2, 6], [.r 3],
  .seq (.reg false [⟨none, .mov (.v (.c (.d (.bool false))))⟩] [(3, 0)] []) (
  .seq (.reg false [⟨none, .mov (.r 0)⟩,
    ⟨none, .vc 27 [(.l 0), (.v (.c (.d (.int .i64 1)))), (.v (.c (.d (.int .i64 64))))]⟩,
    ⟨none, .mov (.l 0)⟩,
    ⟨some (0, true), .mov (.r 1)⟩,
    ⟨some (1, true), .vc 27 [(.l 0), (.v (.c (.d (.int .i64 0)))), (.v (.c (.d (.int .i64 63))))]⟩,
    ⟨none, .pick (.l 2) (.l 0) (.v (.c (.d (.bool false))))⟩,
    ⟨none, .mov (.l 0)⟩,
    ⟨some (0, true), .mov (.r 2)⟩,
    ⟨some (1, true), .vc 27 [(.l 0), (.v (.c (.d (.int .i64 0)))), (.v (.c (.d (.int .i64 64))))]⟩,
    ⟨none, .pick (.l 2) (.l 0) (.v (.c (.d (.bool false))))⟩,
    ⟨none, .mov (.l 0)⟩] [(3, 0)] []) (
  .ret))⟩

/-- vidimus/oids.Any -/
def fn38 : Fn := ⟨0, 1, [0], [.cell 0 17 true],
  .seq (.reg false [⟨none, .new [.int .u8 0, .int .u32 0, .int .u32 0, .int .u32 0, .int .u32 0, .int .u32 0, .int .u32 0, .int .u32 0, .int .u32 0, .int .u32 0, .int .u32 0, .int .u32 0, .int .u32 0, .int .u32 0, .int .u32 0, .int .u32 0, .int .u32 0]⟩] [(0, 0)] []) (
  .seq (.reg false [⟨none, .bsl 5 1 [.int .u32 0] [(0, 1, (.v (.c (.d (.int .u32 2))))), (1, 1, (.v (.c (.d (.int .u32 5))))), (2, 1, (.v (.c (.d (.int .u32 29))))), (3, 1, (.v (.c (.d (.int .u32 32))))), (4, 1, (.v (.c (.d (.int .u32 0)))))]⟩,
    ⟨none, .vc 42 [(.l 0)]⟩,
    ⟨none, .st 17 (.r 0) (.l 0)⟩] [] []) (
  .ret))⟩

/-- vidimus/families.level -/
def fn39 : Fn := ⟨4, 8, [0, 1, 2, 3, 8, 9, 10, 12], [.r 4],
  .seq (.reg false [⟨none, .mov (.v (.c (.d (.int .i64 0))))⟩] [(4, 0)] []) (
  .seq (.seq (.reg false [⟨none, .mov (.r 3)⟩] [(5, 0)] []) (
  .block 0 (
  .seq (.reg false [⟨none, .bin .eql (.r 5) (.v (.c (.d (.int .i64 0))))⟩,
    ⟨none, .mov (.l 0)⟩] [(6, 0)] []) (
  .cond (.r 6) (
  .seq (.reg false [⟨none, .mov (.v (.c (.d (.int .i64 1))))⟩] [(4, 0)] []) (
  .ret)) (
  .seq (.reg false [⟨none, .mov (.r 0)⟩,
    ⟨none, .bin .eql (.r 5) (.l 0)⟩,
    ⟨none, .mov (.l 0)⟩] [(7, 0)] []) (
  .cond (.r 7) (
  .seq (.reg false [⟨none, .mov (.r 0)⟩,
    ⟨none, .mov (.r 1)⟩,
    ⟨none, .bin .mul (.l 1) (.l 0)⟩,
    ⟨none, .bin .add (.v (.c (.d (.int .i64 1)))) (.l 0)⟩,
    ⟨none, .mov (.r 0)⟩,
    ⟨none, .bin .sub (.l 0) (.v (.c (.d (.int .i64 1))))⟩,
    ⟨none, .mov (.r 2)⟩,
    ⟨none, .bin .mul (.l 1) (.l 0)⟩,
    ⟨none, .bin .add (.l 4) (.l 0)⟩,
    ⟨none, .mov (.l 0)⟩] [(4, 0)] []) (
  .ret)) (
  .skip))))))) (
  .seq (.reg false [⟨none, .mov (.r 3)⟩,
    ⟨none, .mov (.r 1)⟩,
    ⟨none, .mov (.r 2)⟩,
    ⟨none, .bin .add (.l 1) (.l 0)⟩,
    ⟨none, .bin .mul (.l 3) (.l 0)⟩,
    ⟨none, .bin .add (.v (.c (.d (.int .i64 1)))) (.l 0)⟩,
    ⟨none, .mov (.l 0)⟩] [(4, 0)] []) (
  .ret)))⟩

/-- vidimus/vidimusref34.Any -/
def fn40 : Fn := ⟨0, 1, [0], [.cell 0 17 true],
  .seq (.reg false [⟨none, .new [.int .u8 0, .int .u32 0, .int .u32 0, .int .u32 0, .int .u32 0, .int .u32 0, .int .u32 0, .int .u32 0, .int .u32 0, .int .u32 0, .int .u32 0, .int .u32 0, .int .u32 0, .int .u32 0, .int .u32 0, .int .u32 0, .int .u32 0]⟩] [(0, 0)] []) (
  .seq (.reg false [⟨none, .bld [.int .u32 0, .int .u32 0, .int .u32 0, .int .u32 0, .int .u32 0, .int .u32 0, .int .u32 0, .int .u32 0, .int .u32 0, .int .u32 0, .int .u32 0, .int .u32 0, .int .u32 0, .int .u32 0, .int .u32 0, .int .u32 0] [(0, 1, (.v (.c (.d (.int .u32 2))))), (1, 1, (.v (.c (.d (.int .u32 5))))), (2, 1, (.v (.c (.d (.int .u32 29))))), (3, 1, (.v (.c (.d (.int .u32 32))))), (4, 1, (.v (.c (.d (.int .u32 0)))))]⟩,
    ⟨none, .bld [.int .u8 0, .int .u32 0, .int .u32 0, .int .u32 0, .int .u32 0, .int .u32 0, .int .u32 0, .int .u32 0, .int .u32 0, .int .u32 0, .int .u32 0, .int .u32 0, .int .u32 0, .int .u32 0, .int .u32 0, .int .u32 0, .int .u32 0] [(0, 1, (.v (.c (.d (.int .u8 5))))), (1, 16, (.l 0))]⟩,
    ⟨none, .st 17 (.r 0) (.l 0)⟩] [] []) (
  .ret))⟩

/-- vidimus/vidimusref34.Process -/
def fn41 : Fn := ⟨2, 19, [0, 1, 3, 4, 5, 6, 7, 8, 9, 10, 11, 41, 88, 102, 107, 131, 146, 164, 221], [.cell 3 9 true],
  .seq (.reg false [⟨none, .box (.r 1)⟩,
    ⟨none, .new [.nils, .nils, .nils, .nils, .nils, .int .i64 0, .int .u8 0, .int .i64 0, .int .i64 0]⟩] [(2, 1), (3, 0)] []) (
  .seq (.reg false [⟨none, .mov (.r 0)⟩,
    ⟨none, .len (.l 0)⟩,
    ⟨none, .mov (.l 0)⟩] [(4, 0)] []) (
  .seq (.reg false [⟨none, .vc 40 []⟩,
    ⟨none, .vc 40 []⟩,
    ⟨none, .bsl 1 17 [.int .u8 0, .int .u32 0, .int .u32 0, .int .u32 0, .int .u32 0, .int .u32 0, .int .u32 0, .int .u32 0, .int .u32 0, .int .u32 0, .int .u32 0, .int .u32 0, .int .u32 0, .int .u32 0, .int .u32 0, .int .u32 0, .int .u32 0] [(0, 17, (.l 0))]⟩,
    ⟨none, .bld [.int .u8 0, .int .u32 0, .int .u32 0, .int .u32 0, .int .u32 0, .int .u32 0, .int .u32 0, .int .u32 0, .int .u32 0, .int .u32 0, .int .u32 0, .int .u32 0, .int .u32 0, .int .u32 0, .int .u32 0, .int .u32 0, .int .u32 0, .nils, .nils, .nils] [(0, 17, (.l 2)), (18, 1, (.l 0))]⟩,
    ⟨none, .bsl 1 20 [.int .u8 0, .int .u32 0, .int .u32 0, .int .u32 0, .int .u32 0, .int .u32 0, .int .u32 0, .int .u32 0, .int .u32 0, .int .u32 0, .int .u32 0, .int .u32 0, .int .u32 0, .int .u32 0, .int .u32 0, .int .u32 0, .int .u32 0, .nils, .nils, .nils] [(0, 20, (.l 0))]⟩,
    ⟨none, .mov (.l 0)⟩] [(5, 0)] []) (
  .seq (.reg true [⟨none, .mov (.r 5)⟩,
    ⟨none, .bsl 1 1 [.nils] [(0, 1, (.l 0))]⟩,
    ⟨none, .mov (.r 5)⟩,
    ⟨none, .bsl 1 1 [.nils] [(0, 1, (.l 0))]⟩,
    ⟨none, .fa 1 (.r 2)⟩,
    ⟨none, .ld false 1 (.l 0)⟩,
    ⟨none, .mov (.r 4)⟩,
    ⟨none, .vc 47 [(.l 1), (.l 0)]⟩,
    ⟨none, .bsl 2 1 [.int .i64 0] [(0, 1, (.v (.c (.d (.int .i64 0))))), (1, 1, (.l 0))]⟩,
    ⟨none, .fa 2 (.r 2)⟩,
    ⟨none, .ld false 1 (.l 0)⟩,
    ⟨none, .mov (.r 4)⟩,
    ⟨none, .vc 47 [(.l 1), (.l 0)]⟩,
    ⟨none, .bsl 2 1 [.int .i64 0] [(0, 1, (.v (.c (.d (.int .i64 0))))), (1, 1, (.l 0))]⟩,
    ⟨none, .fa 3 (.r 2)⟩,
    ⟨none, .ld false 1 (.l 0)⟩,
    ⟨none, .mov (.r 4)⟩,
    ⟨none, .vc 47 [(.l 1), (.l 0)]⟩,
    ⟨none, .bsl 2 1 [.int .i64 0] [(0, 1, (.v (.c (.d (.int .i64 0))))), (1, 1, (.l 0))]⟩,
    ⟨none, .bld [.nils, .nils, .nils, .nils, .nils, .int .i64 0, .int .u8 0, .int .i64 0, .int .i64 0] [(0, 1, (.l 17)), (1, 1, (.l 15)), (2, 1, (.l 10)), (3, 1, (.l 5)), (4, 1, (.l 0))]⟩,
    ⟨none, .pre⟩,
    ⟨none, .ini 9 (.l 1)⟩] [(6, 0)] []) (
  .seq (.seq (.reg false [⟨none, .mov (.v (.c (.d (.int .i64 1))))⟩] [(7, 0)] []) (
  .block 0 (
  .seq (.fresh 6 (some 4) 1) (
  .seq (.fresh 6 (some 3) 1) (
  .seq (.fresh 6 (some 2) 1) (
  .seq (.fresh 6 (some 0) 1) (
  .seq (.fresh 6 (some 1) 1) (
  .loop (some [0, 3, 4, 6, 7]) (
  .seq (.seq (.reg false [⟨none, .mov (.r 7)⟩,
    ⟨none, .mov (.r 4)⟩,
    ⟨none, .bin .leq (.l 1) (.l 0)⟩] [(11, 0)] []) (
  .cond (.r 11) (
  .skip) (
  .exit 0))) (
  .seq (.block 1 (
  .seq (.reg false [⟨none, .mov (.r 0)⟩,
    ⟨none, .mov (.r 7)⟩,
    ⟨none, .bin .sub (.l 0) (.v (.c (.d (.int .i64 1))))⟩,
    ⟨none, .ixa 8 (.l 2) (.l 0)⟩,
    ⟨none, .ld true 8 (.l 0)⟩,
    ⟨none, .pre⟩,
    ⟨none, .ini 8 (.l 1)⟩] [(8, 0)] []) (
  .seq (.reg true [⟨none, .fa 0 (.r 6)⟩,
    ⟨none, .ld false 1 (.l 0)⟩,
    ⟨none, .mov (.r 7)⟩,
    ⟨none, .bin .sub (.l 0) (.v (.c (.d (.int .i64 1))))⟩,
    ⟨none, .ixa 1 (.l 2) (.l 0)⟩,
    ⟨none, .ld false 1 (.l 0)⟩,
    ⟨none, .ld true 8 (.r 8)⟩,
    ⟨none, .fa 4 (.r 6)⟩,
    ⟨none, .ld false 1 (.l 0)⟩,
    ⟨none, .mov (.r 7)⟩,
    ⟨none, .ixa 1 (.l 1) (.l 0)⟩,
    ⟨none, .ld false 1 (.l 0)⟩,
    ⟨none, .bin .gtr (.l 0) (.v (.c (.d (.int .i64 0))))⟩,
    ⟨none, .mov (.l 0)⟩,
    ⟨some (0, false), .mov (.r 7)⟩,
    ⟨some (1, false), .mov (.r 4)⟩,
    ⟨some (2, false), .bin .lss (.l 1) (.l 0)⟩,
    ⟨some (3, false), .mov (.l 0)⟩,
    ⟨some (0, true), .fa 0 (.r 8)⟩,
    ⟨some (1, true), .ld false 1 (.l 0)⟩,
    ⟨some (6, false), .pick (.l 2) (.l 0) (.v (.c (.d (.bool false))))⟩,
    ⟨none, .pick (.l 7) (.v (.c (.d (.bool true)))) (.l 0)⟩,
    ⟨none, .vc 48 [(.l 16), (.l 15), (.l 0)]⟩,
    ⟨none, .mov (.l 0)⟩] [(9, 0)] []) (
  .seq (.reg false [⟨none, .fa 1 (.r 6)⟩,
    ⟨none, .ld false 1 (.l 0)⟩,
    ⟨none, .mov (.r 9)⟩,
    ⟨none, .bsl 1 1 [.nils] [(0, 1, (.l 0))]⟩,
    ⟨none, .app 1 (.l 2) (.l 0)⟩,
    ⟨none, .fa 1 (.r 6)⟩,
    ⟨none, .st 1 (.l 0) (.l 1)⟩] [] []) (
  .seq (.seq (.reg false [⟨none, .mov (.r 9)⟩,
    ⟨none, .len (.l 0)⟩,
    ⟨none, .bin .eql (.l 0) (.v (.c (.d (.int .i64 0))))⟩,
    ⟨none, .mov (.l 0)⟩,
    ⟨some (0, true), .fa 2 (.r 6)⟩,
    ⟨some (1, true), .ld false 1 (.l 0)⟩,
    ⟨some (2, true), .mov (.r 7)⟩,
    ⟨some (3, true), .ixa 1 (.l 1) (.l 0)⟩,
    ⟨some (4, true), .ld false 1 (.l 0)⟩,
    ⟨some (5, true), .bin .eql (.l 0) (.v (.c (.d (.int .i64 0))))⟩,
    ⟨none, .pick (.l 6) (.l 0) (.v (.c (.d (.bool false))))⟩] [(12, 0)] []) (
  .cond (.r 12) (
  .seq (.reg false [⟨none, .fa 0 (.r 6)⟩,
    ⟨none, .ld false 1 (.l 0)⟩,
    ⟨none, .mov (.r 9)⟩,
    ⟨none, .bsl 1 1 [.nils] [(0, 1, (.l 0))]⟩,
    ⟨none, .app 1 (.l 2) (.l 0)⟩,
    ⟨none, .fa 0 (.r 6)⟩,
    ⟨none, .st 1 (.l 0) (.l 1)⟩] [] []) (
  .seq (.reg false [⟨none, .fa 6 (.r 6)⟩,
    ⟨none, .st 1 (.l 0) (.v (.c (.d (.int .u8 2))))⟩] [] []) (
  .seq (.reg false [⟨none, .mov (.r 7)⟩,
    ⟨none, .bin .sub (.l 0) (.v (.c (.d (.int .i64 1))))⟩,
    ⟨none, .fa 7 (.r 6)⟩,
    ⟨none, .st 1 (.l 0) (.l 1)⟩] [] []) (
  .seq (.reg false [⟨none, .ld true 9 (.r 6)⟩,
    ⟨none, .st 9 (.r 3) (.l 0)⟩] [] []) (
  .ret))))) (
  .skip))) (
  .seq (.seq (.reg false [⟨none, .mov (.r 7)⟩,
    ⟨none, .mov (.r 4)⟩,
    ⟨none, .bin .lss (.l 1) (.l 0)⟩] [(13, 0)] []) (
  .cond (.r 13) (
  .seq (.seq (.reg false [⟨none, .mov (.v (.c (.d (.int .i64 0))))⟩] [(10, 0)] []) (
  .block 2 (
  .seq (.fresh 6 (some 0) 1) (
  .loop (some [0, 3, 4, 6, 7, 8, 9, 10]) (
  .seq (.seq (.reg false [⟨none, .mov (.r 10)⟩,
    ⟨none, .fa 4 (.r 8)⟩,
    ⟨none, .ld false 1 (.l 0)⟩,
    ⟨none, .len (.l 0)⟩,
    ⟨none, .bin .lss (.l 3) (.l 0)⟩] [(14, 0)] []) (
  .cond (.r 14) (
  .skip) (
  .exit 2))) (
  .seq (.block 3 (
  .seq (.reg true [⟨none, .fa 3 (.r 8)⟩,
    ⟨none, .ld false 1 (.l 0)⟩,
    ⟨none, .mov (.l 0)⟩,
    ⟨some (0, true), .fa 4 (.r 8)⟩,
    ⟨some (1, true), .ld false 1 (.l 0)⟩,
    ⟨some (2, true), .mov (.r 10)⟩,
    ⟨some (3, true), .ixa 34 (.l 1) (.l 0)⟩,
    ⟨some (4, true), .fa 0 (.l 0)⟩,
    ⟨some (5, true), .ld true 17 (.l 0)⟩,
    ⟨some (6, true), .vc 40 []⟩,
    ⟨some (7, true), .eqa false 17 (.l 1) (.l 0)⟩,
    ⟨some (8, true), .mov (.l 0)⟩,
    ⟨some (0, false), .fa 4 (.r 8)⟩,
    ⟨some (1, false), .ld false 1 (.l 0)⟩,
    ⟨some (2, false), .mov (.r 10)⟩,
    ⟨some (3, false), .ixa 34 (.l 1) (.l 0)⟩,
    ⟨some (4, false), .fa 17 (.l 0)⟩,
    ⟨some (5, false), .ld true 17 (.l 0)⟩,
    ⟨some (6, false), .vc 40 []⟩,
    ⟨some (7, false), .eqa false 17 (.l 1) (.l 0)⟩,
    ⟨some (17, true), .pick (.l 8) (.v (.c (.d (.bool true)))) (.l 0)⟩,
    ⟨none, .pick (.l 18) (.l 0) (.v (.c (.d (.bool false))))⟩] [(15, 0)] []) (
  .cond (.r 15) (
  .seq (.reg false [⟨none, .fa 0 (.r 6)⟩,
    ⟨none, .ld false 1 (.l 0)⟩,
    ⟨none, .mov (.r 9)⟩,
    ⟨none, .bsl 1 1 [.nils] [(0, 1, (.l 0))]⟩,
    ⟨none, .app 1 (.l 2) (.l 0)⟩,
    ⟨none, .fa 0 (.r 6)⟩,
    ⟨none, .st 1 (.l 0) (.l 1)⟩] [] []) (
  .seq (.reg false [⟨none, .fa 6 (.r 6)⟩,
    ⟨none, .st 1 (.l 0) (.v (.c (.d (.int .u8 1))))⟩] [] []) (
  .seq (.reg false [⟨none, .mov (.r 7)⟩,
    ⟨none, .bin .sub (.l 0) (.v (.c (.d (.int .i64 1))))⟩,
    ⟨none, .fa 7 (.r 6)⟩,
    ⟨none, .st 1 (.l 0) (.l 1)⟩] [] []) (
  .seq (.reg false [⟨none, .mov (.r 10)⟩,
    ⟨none, .fa 8 (.r 6)⟩,
    ⟨none, .st 1 (.l 0) (.l 1)⟩] [] []) (
  .seq (.reg false [⟨none, .ld true 9 (.r 6)⟩,
    ⟨none, .st 9 (.r 3) (.l 0)⟩] [] []) (
  .ret)))))) (
  .skip)))) (
  .reg false [⟨none, .mov (.r 10)⟩,
    ⟨none, .bin .add (.l 0) (.v (.c (.d (.int .i64 1))))⟩,
    ⟨none, .mov (.l 0)⟩] [(10, 0)] []))))))) (
  .seq (.reg false [⟨none, .fa 3 (.r 8)⟩,
    ⟨none, .ld false 1 (.l 0)⟩] [(16, 0)] []) (
  .cond (.r 16) (
  .reg true [⟨none, .mov (.r 9)⟩,
    ⟨none, .ld true 8 (.r 8)⟩,
    ⟨none, .fa 3 (.r 6)⟩,
    ⟨none, .ld false 1 (.l 0)⟩,
    ⟨none, .mov (.r 7)⟩,
    ⟨none, .ixa 1 (.l 1) (.l 0)⟩,
    ⟨none, .ld false 1 (.l 0)⟩,
    ⟨none, .bin .gtr (.l 0) (.v (.c (.d (.int .i64 0))))⟩,
    ⟨none, .vc 49 [(.l 7), (.l 6), (.l 0)]⟩,
    ⟨none, .mov (.l 0)⟩] [(9, 0)] []) (
  .skip)))) (
  .skip))) (
  .seq (.reg false [⟨none, .fa 0 (.r 6)⟩,
    ⟨none, .ld false 1 (.l 0)⟩,
    ⟨none, .mov (.r 9)⟩,
    ⟨none, .bsl 1 1 [.nils] [(0, 1, (.l 0))]⟩,
    ⟨none, .app 1 (.l 2) (.l 0)⟩,
    ⟨none, .fa 0 (.r 6)⟩,
    ⟨none, .st 1 (.l 0) (.l 1)⟩] [] []) (
  .seq (.reg false [⟨none, .mov (.r 7)⟩,
    ⟨none, .mov (.r 4)⟩,
    ⟨none, .bin .lss (.l 1) (.l 0)⟩] [(17, 0)] []) (
  .cond (.r 17) (
  .seq (.reg true [⟨none, .fa 2 (.r 6)⟩,
    ⟨none, .ld false 1 (.l 0)⟩,
    ⟨none, .fa 2 (.r 6)⟩,
    ⟨none, .ld false 1 (.l 0)⟩,
    ⟨none, .mov (.r 7)⟩,
    ⟨none, .ixa 1 (.l 1) (.l 0)⟩,
    ⟨none, .ld false 1 (.l 0)⟩,
    ⟨none, .ld true 8 (.r 8)⟩,
    ⟨none, .fa 5 (.r 8)⟩,
    ⟨none, .ld false 1 (.l 0)⟩,
    ⟨none, .vc 50 [(.l 3), (.l 2), (.l 0)]⟩,
    ⟨none, .bsl 1 1 [.int .i64 0] [(0, 1, (.l 0))]⟩,
    ⟨none, .app 1 (.l 10) (.l 0)⟩,
    ⟨none, .fa 2 (.r 6)⟩,
    ⟨none, .st 1 (.l 0) (.l 1)⟩] [] []) (
  .seq (.reg true [⟨none, .fa 3 (.r 6)⟩,
    ⟨none, .ld false 1 (.l 0)⟩,
    ⟨none, .fa 3 (.r 6)⟩,
    ⟨none, .ld false 1 (.l 0)⟩,
    ⟨none, .mov (.r 7)⟩,
    ⟨none, .ixa 1 (.l 1) (.l 0)⟩,
    ⟨none, .ld false 1 (.l 0)⟩,
    ⟨none, .ld true 8 (.r 8)⟩,
    ⟨none, .fa 6 (.r 8)⟩,
    ⟨none, .ld false 1 (.l 0)⟩,
    ⟨none, .vc 50 [(.l 3), (.l 2), (.l 0)]⟩,
    ⟨none, .bsl 1 1 [.int .i64 0] [(0, 1, (.l 0))]⟩,
    ⟨none, .app 1 (.l 10) (.l 0)⟩,
    ⟨none, .fa 3 (.r 6)⟩,
    ⟨none, .st 1 (.l 0) (.l 1)⟩] [] []) (
  .reg true [⟨none, .fa 4 (.r 6)⟩,
    ⟨none, .ld false 1 (.l 0)⟩,
    ⟨none, .fa 4 (.r 6)⟩,
    ⟨none, .ld false 1 (.l 0)⟩,
    ⟨none, .mov (.r 7)⟩,
    ⟨none, .ixa 1 (.l 1) (.l 0)⟩,
    ⟨none, .ld false 1 (.l 0)⟩,
    ⟨none, .ld true 8 (.r 8)⟩,
    ⟨none, .fa 7 (.r 8)⟩,
    ⟨none, .ld false 1 (.l 0)⟩,
    ⟨none, .vc 50 [(.l 3), (.l 2), (.l 0)]⟩,
    ⟨none, .bsl 1 1 [.int .i64 0] [(0, 1, (.l 0))]⟩,
    ⟨none, .app 1 (.l 10) (.l 0)⟩,
    ⟨none, .fa 4 (.r 6)⟩,
    ⟨none, .st 1 (.l 0) (.l 1)⟩] [] []))) (
  .skip)))))))))) (
  .reg false [⟨none, .mov (.r 7)⟩,
    ⟨none, .bin .add (.l 0) (.v (.c (.d (.int .i64 1))))⟩,
    ⟨none, .mov (.l 0)⟩] [(7, 0)] []))))))))))) (
  .seq (.reg false [⟨none, .fa 2 (.r 6)⟩,
    ⟨none, .ld false 1 (.l 0)⟩,
    ⟨none, .mov (.r 4)⟩,
    ⟨none, .ixa 1 (.l 1) (.l 0)⟩,
    ⟨none, .ld false 1 (.l 0)⟩,
    ⟨none, .bin .sub (.l 0) (.v (.c (.d (.int .i64 1))))⟩,
    ⟨none, .mm true (.l 0) (.v (.c (.d (.int .i64 0))))⟩,
    ⟨none, .fa 5 (.r 6)⟩,
    ⟨none, .st 1 (.l 0) (.l 1)⟩] [] []) (
  .seq (.seq (.reg false [⟨none, .mov (.r 0)⟩,
    ⟨none, .mov (.r 4)⟩,
    ⟨none, .bin .sub (.l 0) (.v (.c (.d (.int .i64 1))))⟩,
    ⟨none, .ixa 8 (.l 2) (.l 0)⟩,
    ⟨none, .fa 5 (.l 0)⟩,
    ⟨none, .ld false 1 (.l 0)⟩,
    ⟨none, .bin .eql (.l 0) (.v (.c (.d (.int .i64 0))))⟩] [(18, 0)] []) (
  .cond (.r 18) (
  .reg false [⟨none, .fa 5 (.r 6)⟩,
    ⟨none, .st 1 (.l 0) (.v (.c (.d (.int .i64 0))))⟩] [] []) (
  .skip))) (
  .seq (.reg false [⟨none, .ld true 9 (.r 6)⟩,
    ⟨none, .st 9 (.r 3) (.l 0)⟩] [] []) (
  .ret))))))))⟩

/-- vidimus/oids.Of -/
def fn42 : Fn := ⟨1, 5, [0, 2, 3, 6, 18], [.cell 1 17 true],
  .seq (.reg false [⟨none, .new [.int .u8 0, .int .u32 0, .int .u32 0, .int .u32 0, .int .u32 0, .int .u32 0, .int .u32 0, .int .u32 0, .int .u32 0, .int .u32 0, .int .u32 0, .int .u32 0, .int .u32 0, .int .u32 0, .int .u32 0, .int .u32 0, .int .u32 0]⟩] [(1, 0)] []) (
  .seq (.seq (.reg false [⟨none, .mov (.r 0)⟩,
    ⟨none, .len (.l 0)⟩,
    ⟨none, .bin .gtr (.l 0) (.v (.c (.d (.int .i64 16))))⟩] [(3, 0)] []) (
  .cond (.r 3) (
  .seq (.reg false [⟨none, .bld [.int .u8 0, .int .u32 0, .int .u32 0, .int .u32 0, .int .u32 0, .int .u32 0, .int .u32 0, .int .u32 0, .int .u32 0, .int .u32 0, .int .u32 0, .int .u32 0, .int .u32 0, .int .u32 0, .int .u32 0, .int .u32 0, .int .u32 0] []⟩,
    ⟨none, .st 17 (.r 1) (.l 0)⟩] [] []) (
  .ret)) (
  .skip))) (
  .seq (.reg false [⟨none, .mov (.r 0)⟩,
    ⟨none, .len (.l 0)⟩,
    ⟨none, .cvi .u8 (.l 0)⟩,
    ⟨none, .bld [.int .u8 0, .int .u32 0, .int .u32 0, .int .u32 0, .int .u32 0, .int .u32 0, .int .u32 0, .int .u32 0, .int .u32 0, .int .u32 0, .int .u32 0, .int .u32 0, .int .u32 0, .int .u32 0, .int .u32 0, .int .u32 0, .int .u32 0] [(0, 1, (.l 0))]⟩,
    ⟨none, .pre⟩,
    ⟨none, .ini 17 (.l 1)⟩] [(2, 0)] []) (
  .seq (.reg false [⟨none, .fa 1 (.r 2)⟩,
    ⟨none, .slp 16 1 (.l 0) none none none⟩,
    ⟨none, .mov (.r 0)⟩,
    ⟨none, .cpy 1 (.l 1) (.l 0)⟩] [] []) (
  .seq (.seq (.reg false [⟨none, .ld true 17 (.r 2)⟩,
    ⟨none, .vc 43 [(.l 0)]⟩,
    ⟨none, .bin .neq (.l 0) (.v (.c (.d (.int .i64 0))))⟩] [(4, 0)] []) (
  .cond (.r 4) (
  .seq (.reg false [⟨none, .bld [.int .u8 0, .int .u32 0, .int .u32 0, .int .u32 0, .int .u32 0, .int .u32 0, .int .u32 0, .int .u32 0, .int .u32 0, .int .u32 0, .int .u32 0, .int .u32 0, .int .u32 0, .int .u32 0, .int .u32 0, .int .u32 0, .int .u32 0] []⟩,
    ⟨none, .st 17 (.r 1) (.l 0)⟩] [] []) (
  .ret)) (
  .skip))) (
  .seq (.reg false [⟨none, .ld true 17 (.r 2)⟩,
    ⟨none, .st 17 (.r 1) (.l 0)⟩] [] []) (
  .ret))))))⟩

/-- vidimus/oids.Check -/
def fn43 : Fn := ⟨1, 11, [0, 1, 2, 4, 18, 34, 38, 39, 40, 41, 45], [.r 2],
  .seq (.reg false [⟨none, .box (.r 0)⟩,
    ⟨none, .mov (.v (.c (.d (.int .i64 0))))⟩] [(1, 1), (2, 0)] []) (
  .seq (.seq (.reg false [⟨none, .fa 0 (.r 1)⟩,
    ⟨none, .ld false 1 (.l 0)⟩,
    ⟨none, .bin .lss (.l 0) (.v (.c (.d (.int .u8 2))))⟩,
    ⟨none, .mov (.l 0)⟩,
    ⟨some (0, false), .fa 0 (.r 1)⟩,
    ⟨some (1, false), .ld false 1 (.l 0)⟩,
    ⟨some (2, false), .bin .gtr (.l 0) (.v (.c (.d (.int .u8 16))))⟩,
    ⟨none, .pick (.l 3) (.v (.c (.d (.bool true)))) (.l 0)⟩,
    ⟨none, .mov (.l 0)⟩,
    ⟨some (0, false), .fa 1 (.r 1)⟩,
    ⟨some (1, false), .ixp 16 1 (.l 0) (.v (.c (.d (.int .i64 0))))⟩,
    ⟨some (2, false), .ld false 1 (.l 0)⟩,
    ⟨some (3, false), .bin .gtr (.l 0) (.v (.c (.d (.int .u32 2))))⟩,
    ⟨none, .pick (.l 4) (.v (.c (.d (.bool true)))) (.l 0)⟩] [(4, 0)] []) (
  .cond (.r 4) (
  .seq (.reg false [⟨none, .mov (.v (.c (.d (.int .i64 1))))⟩] [(2, 0)] []) (
  .ret)) (
  .skip))) (
  .seq (.seq (.reg false [⟨none, .fa 1 (.r 1)⟩,
    ⟨none, .ixp 16 1 (.l 0) (.v (.c (.d (.int .i64 0))))⟩,
    ⟨none, .ld false 1 (.l 0)⟩,
    ⟨none, .bin .lss (.l 0) (.v (.c (.d (.int .u32 2))))⟩,
    ⟨none, .mov (.l 0)⟩,
    ⟨some (0, true), .fa 1 (.r 1)⟩,
    ⟨some (1, true), .ixp 16 1 (.l 0) (.v (.c (.d (.int .i64 1))))⟩,
    ⟨some (2, true), .ld false 1 (.l 0)⟩,
    ⟨some (3, true), .bin .gtr (.l 0) (.v (.c (.d (.int .u32 39))))⟩,
    ⟨none, .pick (.l 4) (.l 0) (.v (.c (.d (.bool false))))⟩,
    ⟨none, .mov (.l 0)⟩,
    ⟨some (0, false), .fa 1 (.r 1)⟩,
    ⟨some (1, false), .ixp 16 1 (.l 0) (.v (.c (.d (.int .i64 1))))⟩,
    ⟨some (2, false), .ld false 1 (.l 0)⟩,
    ⟨some (3, false), .bin .gtr (.l 0) (.v (.c (.d (.int .u32 4294967215))))⟩,
    ⟨none, .pick (.l 4) (.v (.c (.d (.bool true)))) (.l 0)⟩] [(5, 0)] []) (
  .cond (.r 5) (
  .seq (.reg false [⟨none, .mov (.v (.c (.d (.int .i64 1))))⟩] [(2, 0)] []) (
  .ret)) (
  .skip))) (
  .seq (.seq (.reg false [⟨none, .fa 1 (.r 1)⟩,
    ⟨none, .fa 0 (.r 1)⟩,
    ⟨none, .ld false 1 (.l 0)⟩,
    ⟨none, .slp 16 1 (.l 2) (some (.l 0)) none none⟩,
    ⟨none, .len (.l 0)⟩,
    ⟨none, .mov (.v (.c (.d (.int .i64 0))))⟩] [(6, 2), (7, 1), (8, 0)] []) (
  .block 0 (
  .loop (some [6, 7, 8]) (
  .seq (.reg false [⟨none, .bin .lss (.r 8) (.r 7)⟩] [(9, 0)] []) (
  .seq (.cond (.r 9) (
  .skip) (
  .exit 0)) (
  .seq (.block 1 (
  .seq (.reg false [⟨none, .ixa 1 (.r 6) (.r 8)⟩,
    ⟨none, .ld false 1 (.l 0)⟩,
    ⟨none, .mov (.l 0)⟩] [(3, 0)] []) (
  .seq (.reg false [⟨none, .mov (.r 3)⟩,
    ⟨none, .bin .neq (.l 0) (.v (.c (.d (.int .u32 0))))⟩] [(10, 0)] []) (
  .cond (.r 10) (
  .seq (.reg false [⟨none, .mov (.v (.c (.d (.int .i64 1))))⟩] [(2, 0)] []) (
  .ret)) (
  .skip))))) (
  .reg false [⟨none, .bin .add (.r 8) (.v (.c (.d (.int .i64 1))))⟩,
    ⟨none, .mov (.l 0)⟩] [(8, 0)] []))))))) (
  .seq (.reg false [⟨none, .mov (.v (.c (.d (.int .i64 0))))⟩] [(2, 0)] []) (
  .ret)))))⟩

/-- vidimus/oids.arcs -/
def fn44 : Fn := ⟨1, 2, [0, 2], [.r 1],
  .seq (.reg false [⟨none, .mov (.v (.c (.d (.nils))))⟩] [(1, 0)] []) (
  .seq (.reg true [⟨none, .mov (.r 0)⟩,
    ⟨none, .nlc (.l 0)⟩,
    ⟨none, .fa 1 (.l 0)⟩,
    ⟨none, .mov (.r 0)⟩,
    ⟨none, .nlc (.l 0)⟩,
    ⟨none, .fa 0 (.l 0)⟩,
    ⟨none, .ld false 1 (.l 0)⟩,
    ⟨none, .cvi .i64 (.l 0)⟩,
    ⟨none, .mm false (.l 0) (.v (.c (.d (.int .i64 16))))⟩,
    ⟨none, .slp 16 1 (.l 6) none (some (.l 0)) none⟩,
    ⟨none, .mov (.l 0)⟩] [(1, 0)] []) (
  .ret))⟩

/-- strconv.FormatUint -/
def fn45 : Fn := ⟨2, 3, [0, 1, 4], [.r 2],
  .seq (.reg false [⟨none, .mov (.v (.c (.d (.str []))))⟩] [(2, 0)] []) (
  .seq (.reg false [⟨none, .mov (.r 0)⟩,
    ⟨none, .mov (.r 1)⟩,
    ⟨none, .vc 51 [(.l 1), (.l 0)]⟩,
    ⟨none, .mov (.l 0)⟩] [(2, 0)] []) (
  .ret))⟩

/-- vidimus/vidimusref34.start -/
def fn47 : Fn := ⟨2, 4, [0, 1, 4, 5], [.r 2],
  .seq (.reg false [⟨none, .mov (.v (.c (.d (.int .i64 0))))⟩] [(2, 0)] []) (
  .seq (.seq (.reg false [⟨none, .mov (.r 0)⟩] [(3, 0)] []) (
  .cond (.r 3) (
  .seq (.reg false [⟨none, .mov (.v (.c (.d (.int .i64 0))))⟩] [(2, 0)] []) (
  .ret)) (
  .skip))) (
  .seq (.reg false [⟨none, .mov (.r 1)⟩,
    ⟨none, .bin .add (.l 0) (.v (.c (.d (.int .i64 1))))⟩,
    ⟨none, .mov (.l 0)⟩] [(2, 0)] []) (
  .ret)))⟩

/-- vidimus/vidimusref34.Grown -/
def fn48 : Fn := ⟨3, 22, [0, 1, 2, 4, 6, 7, 8, 9, 10, 11, 12, 13, 14, 17, 23, 34, 46, 51, 73, 78, 88, 113], [.r 4],
  .seq (.reg false [⟨none, .box (.r 1)⟩,
    ⟨none, .mov (.v (.c (.d (.nils))))⟩] [(3, 1), (4, 0)] []) (
  .seq (.reg false [⟨none, .mov (.v (.c (.d (.nils))))⟩] [(5, 0)] []) (
  .seq (.seq (.reg false [⟨none, .fa 1 (.r 3)⟩,
    ⟨none, .ld false 1 (.l 0)⟩,
    ⟨none, .un .not (.l 0)⟩] [(13, 0)] []) (
  .cond (.r 13) (
  .seq (.reg false [⟨none, .mov (.r 5)⟩,
    ⟨none, .mov (.l 0)⟩] [(4, 0)] []) (
  .ret)) (
  .skip))) (
  .seq (.seq (.reg false [⟨none, .mov (.v (.c (.d (.int .i64 0))))⟩] [(6, 0)] []) (
  .block 0 (
  .loop (some [0, 2, 3, 5, 6]) (
  .seq (.seq (.reg false [⟨none, .mov (.r 6)⟩,
    ⟨none, .fa 2 (.r 3)⟩,
    ⟨none, .ld false 1 (.l 0)⟩,
    ⟨none, .len (.l 0)⟩,
    ⟨none, .bin .lss (.l 3) (.l 0)⟩] [(14, 0)] []) (
  .cond (.r 14) (
  .skip) (
  .exit 0))) (
  .seq (.block 1 (
  .seq (.reg false [⟨none, .fa 2 (.r 3)⟩,
    ⟨none, .ld false 1 (.l 0)⟩,
    ⟨none, .mov (.r 6)⟩,
    ⟨none, .ixa 18 (.l 1) (.l 0)⟩,
    ⟨none, .fa 0 (.l 0)⟩,
    ⟨none, .ld true 17 (.l 0)⟩,
    ⟨none, .pre⟩,
    ⟨none, .ini 17 (.l 1)⟩] [(7, 0)] []) (
  .seq (.seq (.reg true [⟨none, .ld true 17 (.r 7)⟩,
    ⟨none, .vc 40 []⟩,
    ⟨none, .eqa false 17 (.l 1) (.l 0)⟩] [(15, 0)] []) (
  .cond (.r 15) (
  .exit 1) (
  .skip))) (
  .seq (.reg false [⟨none, .mov (.r 0)⟩,
    ⟨none, .ld true 17 (.r 7)⟩,
    ⟨none, .vc 55 [(.l 1), (.l 0)]⟩,
    ⟨none, .mov (.l 0)⟩] [(8, 0)] []) (
  .seq (.seq (.reg false [⟨none, .mov (.r 8)⟩,
    ⟨none, .len (.l 0)⟩,
    ⟨none, .bin .eql (.l 0) (.v (.c (.d (.int .i64 0))))⟩,
    ⟨none, .mov (.l 0)⟩,
    ⟨some (0, true), .mov (.r 0)⟩,
    ⟨some (1, true), .vc 40 []⟩,
    ⟨some (2, true), .vc 56 [(.l 1), (.l 0)]⟩,
    ⟨some (3, true), .bin .geq (.l 0) (.v (.c (.d (.int .i64 0))))⟩,
    ⟨none, .pick (.l 4) (.l 0) (.v (.c (.d (.bool false))))⟩] [(16, 0)] []) (
  .cond (.r 16) (
  .reg false [⟨none, .vc 40 []⟩,
    ⟨none, .bsl 1 17 [.int .u8 0, .int .u32 0, .int .u32 0, .int .u32 0, .int .u32 0, .int .u32 0, .int .u32 0, .int .u32 0, .int .u32 0, .int .u32 0, .int .u32 0, .int .u32 0, .int .u32 0, .int .u32 0, .int .u32 0, .int .u32 0, .int .u32 0] [(0, 17, (.l 0))]⟩,
    ⟨none, .mov (.l 0)⟩] [(8, 0)] []) (
  .skip))) (
  .seq (.reg false [⟨none, .mov (.r 8)⟩,
    ⟨none, .len (.l 0)⟩,
    ⟨none, .bin .gtr (.l 0) (.v (.c (.d (.int .i64 0))))⟩] [(17, 0)] []) (
  .cond (.r 17) (
  .reg true [⟨none, .mov (.r 5)⟩,
    ⟨none, .ld true 17 (.r 7)⟩,
    ⟨none, .mov (.r 8)⟩,
    ⟨none, .ld true 17 (.r 7)⟩,
    ⟨none, .bsl 1 17 [.int .u8 0, .int .u32 0, .int .u32 0, .int .u32 0, .int .u32 0, .int .u32 0, .int .u32 0, .int .u32 0, .int .u32 0, .int .u32 0, .int .u32 0, .int .u32 0, .int .u32 0, .int .u32 0, .int .u32 0, .int .u32 0, .int .u32 0] [(0, 17, (.l 0))]⟩,
    ⟨none, .fa 2 (.r 3)⟩,
    ⟨none, .ld false 1 (.l 0)⟩,
    ⟨none, .mov (.r 6)⟩,
    ⟨none, .ixa 18 (.l 1) (.l 0)⟩,
    ⟨none, .fa 17 (.l 0)⟩,
    ⟨none, .ld false 1 (.l 0)⟩,
    ⟨none, .bld [.int .u8 0, .int .u32 0, .int .u32 0, .int .u32 0, .int .u32 0, .int .u32 0, .int .u32 0, .int .u32 0, .int .u32 0, .int .u32 0, .int .u32 0, .int .u32 0, .int .u32 0, .int .u32 0, .int .u32 0, .int .u32 0, .int .u32 0, .nils, .nils, .nils] [(0, 17, (.l 9)), (17, 1, (.l 8)), (18, 1, (.l 6)), (19, 1, (.l 0))]⟩,
    ⟨none, .vc 57 [(.l 11), (.l 0)]⟩,
    ⟨none, .mov (.l 0)⟩] [(5, 0)] []) (
  .skip)))))))) (
  .reg false [⟨none, .mov (.r 6)⟩,
    ⟨none, .bin .add (.l 0) (.v (.c (.d (.int .i64 1))))⟩,
    ⟨none, .mov (.l 0)⟩] [(6, 0)] [])))))) (
  .seq (.reg true [⟨none, .ld true 8 (.r 3)⟩,
    ⟨none, .vc 40 []⟩,
    ⟨none, .vc 58 [(.l 1), (.l 0)]⟩,
    ⟨none, .mov (.l 0)⟩] [(9, 0)] []) (
  .seq (.seq (.reg false [⟨none, .mov (.r 9)⟩,
    ⟨none, .bin .lss (.l 0) (.v (.c (.d (.int .i64 0))))⟩,
    ⟨none, .mov (.l 0)⟩,
    ⟨some (0, false), .mov (.r 2)⟩,
    ⟨some (1, false), .un .not (.l 0)⟩,
    ⟨none, .pick (.l 2) (.v (.c (.d (.bool true)))) (.l 0)⟩] [(18, 0)] []) (
  .cond (.r 18) (
  .seq (.reg false [⟨none, .mov (.r 5)⟩,
    ⟨none, .mov (.l 0)⟩] [(4, 0)] []) (
  .ret)) (
  .skip))) (
  .seq (.seq (.reg false [⟨none, .mov (.v (.c (.d (.int .i64 0))))⟩] [(10, 0)] []) (
  .block 2 (
  .loop (some [0, 3, 5, 9, 10]) (
  .seq (.seq (.reg false [⟨none, .mov (.r 10)⟩,
    ⟨none, .mov (.r 0)⟩,
    ⟨none, .len (.l 0)⟩,
    ⟨none, .bin .lss (.l 2) (.l 0)⟩] [(19, 0)] []) (
  .cond (.r 19) (
  .skip) (
  .exit 2))) (
  .seq (.block 3 (
  .seq (.reg false [⟨none, .mov (.v (.c (.d (.int .i64 0))))⟩] [(11, 0)] []) (
  .block 4 (
  .loop (some [0, 3, 5, 9, 10, 11]) (
  .seq (.seq (.reg false [⟨none, .mov (.r 11)⟩,
    ⟨none, .mov (.r 0)⟩,
    ⟨none, .mov (.r 10)⟩,
    ⟨none, .ixa 20 (.l 1) (.l 0)⟩,
    ⟨none, .fa 18 (.l 0)⟩,
    ⟨none, .ld false 1 (.l 0)⟩,
    ⟨none, .len (.l 0)⟩,
    ⟨none, .bin .lss (.l 6) (.l 0)⟩] [(20, 0)] []) (
  .cond (.r 20) (
  .skip) (
  .exit 4))) (
  .seq (.block 5 (
  .seq (.reg false [⟨none, .mov (.r 0)⟩,
    ⟨none, .mov (.r 10)⟩,
    ⟨none, .ixa 20 (.l 1) (.l 0)⟩,
    ⟨none, .fa 18 (.l 0)⟩,
    ⟨none, .ld false 1 (.l 0)⟩,
    ⟨none, .mov (.r 11)⟩,
    ⟨none, .ixa 17 (.l 1) (.l 0)⟩,
    ⟨none, .ld true 17 (.l 0)⟩,
    ⟨none, .pre⟩,
    ⟨none, .ini 17 (.l 1)⟩] [(12, 0)] []) (
  .seq (.seq (.reg true [⟨none, .ld true 17 (.r 12)⟩,
    ⟨none, .vc 40 []⟩,
    ⟨none, .eqa true 17 (.l 1) (.l 0)⟩,
    ⟨none, .mov (.l 0)⟩,
    ⟨some (0, true), .ld true 8 (.r 3)⟩,
    ⟨some (1, true), .ld true 17 (.r 12)⟩,
    ⟨some (2, true), .vc 58 [(.l 1), (.l 0)]⟩,
    ⟨some (3, true), .bin .geq (.l 0) (.v (.c (.d (.int .i64 0))))⟩,
    ⟨none, .pick (.l 4) (.l 0) (.v (.c (.d (.bool false))))⟩,
    ⟨none, .mov (.l 0)⟩,
    ⟨some (0, false), .mov (.r 5)⟩,
    ⟨some (1, false), .ld true 17 (.r 12)⟩,
    ⟨some (2, false), .vc 56 [(.l 1), (.l 0)]⟩,
    ⟨some (3, false), .bin .geq (.l 0) (.v (.c (.d (.int .i64 0))))⟩,
    ⟨none, .pick (.l 4) (.v (.c (.d (.bool true)))) (.l 0)⟩] [(21, 0)] []) (
  .cond (.r 21) (
  .exit 5) (
  .skip))) (
  .reg true [⟨none, .mov (.r 5)⟩,
    ⟨none, .ld true 17 (.r 12)⟩,
    ⟨none, .mov (.r 0)⟩,
    ⟨none, .ld true 17 (.r 12)⟩,
    ⟨none, .vc 55 [(.l 1), (.l 0)]⟩,
    ⟨none, .ld true 17 (.r 12)⟩,
    ⟨none, .bsl 1 17 [.int .u8 0, .int .u32 0, .int .u32 0, .int .u32 0, .int .u32 0, .int .u32 0, .int .u32 0, .int .u32 0, .int .u32 0, .int .u32 0, .int .u32 0, .int .u32 0, .int .u32 0, .int .u32 0, .int .u32 0, .int .u32 0, .int .u32 0] [(0, 17, (.l 0))]⟩,
    ⟨none, .fa 2 (.r 3)⟩,
    ⟨none, .ld false 1 (.l 0)⟩,
    ⟨none, .mov (.r 9)⟩,
    ⟨none, .ixa 18 (.l 1) (.l 0)⟩,
    ⟨none, .fa 17 (.l 0)⟩,
    ⟨none, .ld false 1 (.l 0)⟩,
    ⟨none, .bld [.int .u8 0, .int .u32 0, .int .u32 0, .int .u32 0, .int .u32 0, .int .u32 0, .int .u32 0, .int .u32 0, .int .u32 0, .int .u32 0, .int .u32 0, .int .u32 0, .int .u32 0, .int .u32 0, .int .u32 0, .int .u32 0, .int .u32 0, .nils, .nils, .nils] [(0, 17, (.l 11)), (17, 1, (.l 8)), (18, 1, (.l 6)), (19, 1, (.l 0))]⟩,
    ⟨none, .vc 57 [(.l 13), (.l 0)]⟩,
    ⟨none, .mov (.l 0)⟩] [(5, 0)] [])))) (
  .reg false [⟨none, .mov (.r 11)⟩,
    ⟨none, .bin .add (.l 0) (.v (.c (.d (.int .i64 1))))⟩,
    ⟨none, .mov (.l 0)⟩] [(11, 0)] []))))))) (
  .reg false [⟨none, .mov (.r 10)⟩,
    ⟨none, .bin .add (.l 0) (.v (.c (.d (.int .i64 1))))⟩,
    ⟨none, .mov (.l 0)⟩] [(10, 0)] [])))))) (
  .seq (.reg false [⟨none, .mov (.r 5)⟩,
    ⟨none, .mov (.l 0)⟩] [(4, 0)] []) (
  .ret))))))))⟩

/-- vidimus/vidimusref34.Mapped -/
def fn49 : Fn := ⟨3, 20, [0, 1, 2, 4, 6, 7, 8, 9, 10, 11, 12, 13, 14, 20, 33, 43, 55, 65, 67, 86], [.r 4],
  .seq (.reg false [⟨none, .box (.r 1)⟩,
    ⟨none, .mov (.v (.c (.d (.nils))))⟩] [(3, 1), (4, 0)] []) (
  .seq (.reg false [⟨none, .mov (.r 0)⟩,
    ⟨none, .mov (.l 0)⟩] [(5, 0)] []) (
  .seq (.seq (.reg false [⟨none, .mov (.v (.c (.d (.int .i64 0))))⟩] [(6, 0)] []) (
  .block 0 (
  .seq (.fresh 10 none 20) (
  .loop (some [0, 2, 3, 5, 6]) (
  .seq (.seq (.reg false [⟨none, .mov (.r 6)⟩,
    ⟨none, .fa 4 (.r 3)⟩,
    ⟨none, .ld false 1 (.l 0)⟩,
    ⟨none, .len (.l 0)⟩,
    ⟨none, .bin .lss (.l 3) (.l 0)⟩] [(13, 0)] []) (
  .cond (.r 13) (
  .skip) (
  .exit 0))) (
  .seq (.block 1 (
  .seq (.reg false [⟨none, .fa 4 (.r 3)⟩,
    ⟨none, .ld false 1 (.l 0)⟩,
    ⟨none, .mov (.r 6)⟩,
    ⟨none, .ixa 34 (.l 1) (.l 0)⟩,
    ⟨none, .fa 0 (.l 0)⟩,
    ⟨none, .ld true 17 (.l 0)⟩,
    ⟨none, .pre⟩,
    ⟨none, .ini 17 (.l 1)⟩] [(7, 0)] []) (
  .seq (.reg false [⟨none, .mov (.v (.c (.d (.nils))))⟩] [(8, 0)] []) (
  .seq (.seq (.reg false [⟨none, .mov (.v (.c (.d (.int .i64 0))))⟩] [(9, 0)] []) (
  .block 2 (
  .loop (some [0, 2, 3, 5, 6, 7, 8, 9]) (
  .seq (.seq (.reg false [⟨none, .mov (.r 9)⟩,
    ⟨none, .fa 4 (.r 3)⟩,
    ⟨none, .ld false 1 (.l 0)⟩,
    ⟨none, .len (.l 0)⟩,
    ⟨none, .bin .lss (.l 3) (.l 0)⟩] [(14, 0)] []) (
  .cond (.r 14) (
  .skip) (
  .exit 2))) (
  .seq (.block 3 (
  .seq (.reg true [⟨none, .fa 4 (.r 3)⟩,
    ⟨none, .ld false 1 (.l 0)⟩,
    ⟨none, .mov (.r 9)⟩,
    ⟨none, .ixa 34 (.l 1) (.l 0)⟩,
    ⟨none, .fa 0 (.l 0)⟩,
    ⟨none, .ld true 17 (.l 0)⟩,
    ⟨none, .ld true 17 (.r 7)⟩,
    ⟨none, .eqa false 17 (.l 1) (.l 0)⟩] [(15, 0)] []) (
  .cond (.r 15) (
  .reg false [⟨none, .mov (.r 8)⟩,
    ⟨none, .fa 4 (.r 3)⟩,
    ⟨none, .ld false 1 (.l 0)⟩,
    ⟨none, .mov (.r 9)⟩,
    ⟨none, .ixa 34 (.l 1) (.l 0)⟩,
    ⟨none, .fa 17 (.l 0)⟩,
    ⟨none, .ld true 17 (.l 0)⟩,
    ⟨none, .vc 59 [(.l 6), (.l 0)]⟩,
    ⟨none, .mov (.l 0)⟩] [(8, 0)] []) (
  .skip)))) (
  .reg false [⟨none, .mov (.r 9)⟩,
    ⟨none, .bin .add (.l 0) (.v (.c (.d (.int .i64 1))))⟩,
    ⟨none, .mov (.l 0)⟩] [(9, 0)] [])))))) (
  .seq (.reg false [⟨none, .mov (.v (.c (.d (.nils))))⟩] [(10, 0)] []) (
  .seq (.seq (.reg false [⟨none, .mov (.v (.c (.d (.int .i64 0))))⟩] [(11, 0)] []) (
  .block 4 (
  .seq (.fresh 10 none 20) (
  .loop (some [0, 2, 3, 5, 6, 7, 8, 10, 11]) (
  .seq (.seq (.reg false [⟨none, .mov (.r 11)⟩,
    ⟨none, .mov (.r 5)⟩,
    ⟨none, .len (.l 0)⟩,
    ⟨none, .bin .lss (.l 2) (.l 0)⟩] [(16, 0)] []) (
  .cond (.r 16) (
  .skip) (
  .exit 4))) (
  .seq (.block 5 (
  .seq (.reg false [⟨none, .mov (.r 5)⟩,
    ⟨none, .mov (.r 11)⟩,
    ⟨none, .ixa 20 (.l 1) (.l 0)⟩,
    ⟨none, .ld true 20 (.l 0)⟩,
    ⟨none, .pre⟩,
    ⟨none, .ini 20 (.l 1)⟩] [(12, 0)] []) (
  .seq (.seq (.reg false [⟨none, .fa 0 (.r 12)⟩,
    ⟨none, .ld true 17 (.l 0)⟩,
    ⟨none, .ld true 17 (.r 7)⟩,
    ⟨none, .eqa false 17 (.l 1) (.l 0)⟩] [(17, 0)] []) (
  .cond (.r 17) (
  .seq (.seq (.reg false [⟨none, .mov (.r 2)⟩,
    ⟨none, .un .not (.l 0)⟩] [(18, 0)] []) (
  .cond (.r 18) (
  .exit 5) (
  .skip))) (
  .reg false [⟨none, .mov (.r 8)⟩,
    ⟨none, .fa 18 (.r 12)⟩,
    ⟨none, .st 1 (.l 0) (.l 1)⟩] [] [])) (
  .skip))) (
  .reg false [⟨none, .mov (.r 10)⟩,
    ⟨none, .ld true 20 (.r 12)⟩,
    ⟨none, .bsl 1 20 [.int .u8 0, .int .u32 0, .int .u32 0, .int .u32 0, .int .u32 0, .int .u32 0, .int .u32 0, .int .u32 0, .int .u32 0, .int .u32 0, .int .u32 0, .int .u32 0, .int .u32 0, .int .u32 0, .int .u32 0, .int .u32 0, .int .u32 0, .nils, .nils, .nils] [(0, 20, (.l 0))]⟩,
    ⟨none, .app 20 (.l 2) (.l 0)⟩,
    ⟨none, .mov (.l 0)⟩] [(10, 0)] [])))) (
  .reg false [⟨none, .mov (.r 11)⟩,
    ⟨none, .bin .add (.l 0) (.v (.c (.d (.int .i64 1))))⟩,
    ⟨none, .mov (.l 0)⟩] [(11, 0)] []))))))) (
  .seq (.seq (.reg false [⟨none, .mov (.r 2)⟩,
    ⟨none, .mov (.l 0)⟩,
    ⟨some (0, true), .mov (.r 5)⟩,
    ⟨some (1, true), .ld true 17 (.r 7)⟩,
    ⟨some (2, true), .vc 56 [(.l 1), (.l 0)]⟩,
    ⟨some (3, true), .bin .lss (.l 0) (.v (.c (.d (.int .i64 0))))⟩,
    ⟨none, .pick (.l 4) (.l 0) (.v (.c (.d (.bool false))))⟩,
    ⟨none, .mov (.l 0)⟩,
    ⟨some (0, true), .mov (.r 0)⟩,
    ⟨some (1, true), .vc 40 []⟩,
    ⟨some (2, true), .vc 56 [(.l 1), (.l 0)]⟩,
    ⟨some (3, true), .bin .geq (.l 0) (.v (.c (.d (.int .i64 0))))⟩,
    ⟨none, .pick (.l 4) (.l 0) (.v (.c (.d (.bool false))))⟩] [(19, 0)] []) (
  .cond (.r 19) (
  .reg true [⟨none, .mov (.r 10)⟩,
    ⟨none, .ld true 17 (.r 7)⟩,
    ⟨none, .vc 40 []⟩,
    ⟨none, .bsl 1 17 [.int .u8 0, .int .u32 0, .int .u32 0, .int .u32 0, .int .u32 0, .int .u32 0, .int .u32 0, .int .u32 0, .int .u32 0, .int .u32 0, .int .u32 0, .int .u32 0, .int .u32 0, .int .u32 0, .int .u32 0, .int .u32 0, .int .u32 0] [(0, 17, (.l 0))]⟩,
    ⟨none, .mov (.r 8)⟩,
    ⟨none, .fa 2 (.r 3)⟩,
    ⟨none, .ld false 1 (.l 0)⟩,
    ⟨none, .ld true 8 (.r 3)⟩,
    ⟨none, .vc 40 []⟩,
    ⟨none, .vc 58 [(.l 1), (.l 0)]⟩,
    ⟨none, .ixa 18 (.l 3) (.l 0)⟩,
    ⟨none, .fa 17 (.l 0)⟩,
    ⟨none, .ld false 1 (.l 0)⟩,
    ⟨none, .bld [.int .u8 0, .int .u32 0, .int .u32 0, .int .u32 0, .int .u32 0, .int .u32 0, .int .u32 0, .int .u32 0, .int .u32 0, .int .u32 0, .int .u32 0, .int .u32 0, .int .u32 0, .int .u32 0, .int .u32 0, .int .u32 0, .int .u32 0, .nils, .nils, .nils] [(0, 17, (.l 11)), (17, 1, (.l 9)), (18, 1, (.l 8)), (19, 1, (.l 0))]⟩,
    ⟨none, .vc 57 [(.l 13), (.l 0)]⟩,
    ⟨none, .mov (.l 0)⟩] [(10, 0)] []) (
  .skip))) (
  .reg false [⟨none, .mov (.r 10)⟩,
    ⟨none, .mov (.l 0)⟩] [(5, 0)] [])))))))) (
  .reg false [⟨none, .mov (.r 6)⟩,
    ⟨none, .bin .add (.l 0) (.v (.c (.d (.int .i64 1))))⟩,
    ⟨none, .mov (.l 0)⟩] [(6, 0)] []))))))) (
  .seq (.reg false [⟨none, .mov (.r 5)⟩,
    ⟨none, .mov (.l 0)⟩] [(4, 0)] []) (
  .ret))))⟩

/-- vidimus/vidimusref34.less -/
def fn50 : Fn := ⟨3, 7, [0, 1, 2, 4, 6, 13, 22], [.r 4],
  .seq (.reg false [⟨none, .box (.r 1)⟩,
    ⟨none, .mov (.v (.c (.d (.int .i64 0))))⟩] [(3, 1), (4, 0)] []) (
  .seq (.seq (.reg false [⟨none, .fa 0 (.r 3)⟩,
    ⟨none, .ld false 1 (.l 0)⟩,
    ⟨none, .un .not (.l 0)⟩,
    ⟨none, .mov (.l 0)⟩,
    ⟨some (0, true), .mov (.r 0)⟩,
    ⟨some (1, true), .bin .gtr (.l 0) (.v (.c (.d (.int .i64 0))))⟩,
    ⟨none, .pick (.l 2) (.l 0) (.v (.c (.d (.bool false))))⟩] [(5, 0)] []) (
  .cond (.r 5) (
  .reg false [⟨none, .mov (.r 0)⟩,
    ⟨none, .bin .sub (.l 0) (.v (.c (.d (.int .i64 1))))⟩,
    ⟨none, .mov (.l 0)⟩] [(0, 0)] []) (
  .skip))) (
  .seq (.seq (.reg false [⟨none, .mov (.r 2)⟩,
    ⟨none, .bin .neq (.l 0) (.v (.c (.d (.int .i64 (-1)))))⟩,
    ⟨none, .mov (.l 0)⟩,
    ⟨some (0, true), .mov (.r 2)⟩,
    ⟨some (1, true), .mov (.r 0)⟩,
    ⟨some (2, true), .bin .lss (.l 1) (.l 0)⟩,
    ⟨none, .pick (.l 3) (.l 0) (.v (.c (.d (.bool false))))⟩] [(6, 0)] []) (
  .cond (.r 6) (
  .reg false [⟨none, .mov (.r 2)⟩,
    ⟨none, .mov (.l 0)⟩] [(0, 0)] []) (
  .skip))) (
  .seq (.reg false [⟨none, .mov (.r 0)⟩,
    ⟨none, .mov (.l 0)⟩] [(4, 0)] []) (
  .ret))))⟩

/-- internal/strconv.FormatUint -/
def fn51 : Fn := ⟨2, 8, [0, 1, 4, 5, 6, 8, 10, 12], [.r 2],
  .seq (.reg false [⟨none, .mov (.v (.c (.d (.str []))))⟩] [(2, 0)] []) (
  .seq (.seq (.reg false [⟨none, .mov (.r 1)⟩,
    ⟨none, .bin .eql (.l 0) (.v (.c (.d (.int .i64 10))))⟩] [(6, 0)] []) (
  .cond (.r 6) (
  .seq (.seq (.reg false [⟨none, .mov (.r 0)⟩,
    ⟨none, .bin .lss (.l 0) (.v (.c (.d (.int .u64 100))))⟩] [(7, 0)] []) (
  .cond (.r 7) (
  .seq (.reg false [⟨none, .mov (.r 0)⟩,
    ⟨none, .cvi .i64 (.l 0)⟩,
    ⟨none, .vc 60 [(.l 0)]⟩,
    ⟨none, .mov (.l 0)⟩] [(2, 0)] []) (
  .ret)) (
  .skip))) (
  .seq (.reg false [⟨none, .new [.int .u8 0, .int .u8 0, .int .u8 0, .int .u8 0, .int .u8 0, .int .u8 0, .int .u8 0, .int .u8 0, .int .u8 0, .int .u8 0, .int .u8 0, .int .u8 0, .int .u8 0, .int .u8 0, .int .u8 0, .int .u8 0, .int .u8 0, .int .u8 0, .int .u8 0, .int .u8 0, .int .u8 0, .int .u8 0, .int .u8 0, .int .u8 0]⟩] [(3, 0)] []) (
  .seq (.reg false [⟨none, .mov (.r 0)⟩,
    ⟨none, .vc 61 [(.l 0)]⟩,
    ⟨none, .mov (.l 0)⟩] [(4, 0)] []) (
  .seq (.reg false [⟨none, .mov (.r 4)⟩,
    ⟨none, .slp 24 1 (.r 3) none (some (.l 0)) none⟩,
    ⟨none, .mov (.r 0)⟩,
    ⟨none, .vc 62 [(.l 1), (.l 0)]⟩] [] []) (
  .seq (.reg false [⟨none, .mov (.r 4)⟩,
    ⟨none, .slp 24 1 (.r 3) none (some (.l 0)) none⟩,
    ⟨none, .b2s (.l 0)⟩,
    ⟨none, .mov (.l 0)⟩] [(2, 0)] []) (
  .ret)))))) (
  .skip))) (
  .seq (.reg false [⟨none, .mov (.r 0)⟩,
    ⟨none, .mov (.r 1)⟩,
    ⟨none, .vc 63 [(.v (.c (.d (.nils)))), (.l 1), (.l 0), (.v (.c (.d (.bool false)))), (.v (.c (.d (.bool false))))]⟩,
    ⟨none, .mov (.l 0)⟩,
    ⟨none, .ext (.l 0) 0⟩,
    ⟨none, .ext (.l 1) 1⟩,
    ⟨none, .mov (.l 1)⟩,
    ⟨none, .mov (.l 1)⟩] [(5, 0)] []) (
  .seq (.reg false [⟨none, .mov (.r 5)⟩,
    ⟨none, .mov (.l 0)⟩] [(2, 0)] []) (
  .ret))))⟩

/-- vidimus/vidimusref34.expecting -/
def fn55 : Fn := ⟨2, 8, [0, 1, 3, 4, 5, 6, 10, 19], [.r 3],
  .seq (.reg false [⟨none, .box (.r 1)⟩,
    ⟨none, .mov (.v (.c (.d (.nils))))⟩] [(2, 1), (3, 0)] []) (
  .seq (.reg false [⟨none, .mov (.v (.c (.d (.nils))))⟩] [(4, 0)] []) (
  .seq (.seq (.reg false [⟨none, .mov (.v (.c (.d (.int .i64 0))))⟩] [(5, 0)] []) (
  .block 0 (
  .seq (.fresh 4 none 17) (
  .loop (some [0, 2, 4, 5]) (
  .seq (.seq (.reg false [⟨none, .mov (.r 5)⟩,
    ⟨none, .mov (.r 0)⟩,
    ⟨none, .len (.l 0)⟩,
    ⟨none, .bin .lss (.l 2) (.l 0)⟩] [(6, 0)] []) (
  .cond (.r 6) (
  .skip) (
  .exit 0))) (
  .seq (.block 1 (
  .seq (.reg true [⟨none, .mov (.r 0)⟩,
    ⟨none, .mov (.r 5)⟩,
    ⟨none, .ixa 20 (.l 1) (.l 0)⟩,
    ⟨none, .fa 18 (.l 0)⟩,
    ⟨none, .ld false 1 (.l 0)⟩,
    ⟨none, .ld true 17 (.r 2)⟩,
    ⟨none, .vc 66 [(.l 1), (.l 0)]⟩] [(7, 0)] []) (
  .cond (.r 7) (
  .reg false [⟨none, .mov (.r 4)⟩,
    ⟨none, .mov (.r 0)⟩,
    ⟨none, .mov (.r 5)⟩,
    ⟨none, .ixa 20 (.l 1) (.l 0)⟩,
    ⟨none, .fa 0 (.l 0)⟩,
    ⟨none, .ld true 17 (.l 0)⟩,
    ⟨none, .bsl 1 17 [.int .u8 0, .int .u32 0, .int .u32 0, .int .u32 0, .int .u32 0, .int .u32 0, .int .u32 0, .int .u32 0, .int .u32 0, .int .u32 0, .int .u32 0, .int .u32 0, .int .u32 0, .int .u32 0, .int .u32 0, .int .u32 0, .int .u32 0] [(0, 17, (.l 0))]⟩,
    ⟨none, .app 17 (.l 6) (.l 0)⟩,
    ⟨none, .mov (.l 0)⟩] [(4, 0)] []) (
  .skip)))) (
  .reg false [⟨none, .mov (.r 5)⟩,
    ⟨none, .bin .add (.l 0) (.v (.c (.d (.int .i64 1))))⟩,
    ⟨none, .mov (.l 0)⟩] [(5, 0)] []))))))) (
  .seq (.reg false [⟨none, .mov (.r 4)⟩,
    ⟨none, .mov (.l 0)⟩] [(3, 0)] []) (
  .ret))))⟩

/-- vidimus/vidimusref34.Find -/
def fn56 : Fn := ⟨2, 7, [0, 1, 3, 4, 5, 9, 18], [.r 3],
  .seq (.reg false [⟨none, .box (.r 1)⟩,
    ⟨none, .mov (.v (.c (.d (.int .i64 0))))⟩] [(2, 1), (3, 0)] []) (
  .seq (.seq (.reg false [⟨none, .mov (.v (.c (.d (.int .i64 0))))⟩] [(4, 0)] []) (
  .block 0 (
  .loop (some [0, 2, 4]) (
  .seq (.seq (.reg false [⟨none, .mov (.r 4)⟩,
    ⟨none, .mov (.r 0)⟩,
    ⟨none, .len (.l 0)⟩,
    ⟨none, .bin .lss (.l 2) (.l 0)⟩] [(5, 0)] []) (
  .cond (.r 5) (
  .skip) (
  .exit 0))) (
  .seq (.block 1 (
  .seq (.reg true [⟨none, .mov (.r 0)⟩,
    ⟨none, .mov (.r 4)⟩,
    ⟨none, .ixa 20 (.l 1) (.l 0)⟩,
    ⟨none, .fa 0 (.l 0)⟩,
    ⟨none, .ld true 17 (.l 0)⟩,
    ⟨none, .ld true 17 (.r 2)⟩,
    ⟨none, .eqa false 17 (.l 1) (.l 0)⟩] [(6, 0)] []) (
  .cond (.r 6) (
  .seq (.reg false [⟨none, .mov (.r 4)⟩,
    ⟨none, .mov (.l 0)⟩] [(3, 0)] []) (
  .ret)) (
  .skip)))) (
  .reg false [⟨none, .mov (.r 4)⟩,
    ⟨none, .bin .add (.l 0) (.v (.c (.d (.int .i64 1))))⟩,
    ⟨none, .mov (.l 0)⟩] [(4, 0)] [])))))) (
  .seq (.reg false [⟨none, .mov (.v (.c (.d (.int .i64 (-1)))))⟩] [(3, 0)] []) (
  .ret)))⟩

/-- vidimus/vidimusref34.put -/
def fn57 : Fn := ⟨2, 10, [0, 1, 3, 4, 5, 6, 7, 11, 26, 39], [.r 3],
  .seq (.reg false [⟨none, .box (.r 1)⟩,
    ⟨none, .mov (.v (.c (.d (.nils))))⟩] [(2, 1), (3, 0)] []) (
  .seq (.reg false [⟨none, .mov (.v (.c (.d (.nils))))⟩] [(4, 0)] []) (
  .seq (.reg false [⟨none, .mov (.v (.c (.d (.bool false))))⟩] [(5, 0)] []) (
  .seq (.seq (.reg false [⟨none, .mov (.v (.c (.d (.int .i64 0))))⟩] [(6, 0)] []) (
  .block 0 (
  .seq (.fresh 4 none 20) (
  .loop (some [0, 2, 4, 5, 6]) (
  .seq (.seq (.reg false [⟨none, .mov (.r 6)⟩,
    ⟨none, .mov (.r 0)⟩,
    ⟨none, .len (.l 0)⟩,
    ⟨none, .bin .lss (.l 2) (.l 0)⟩] [(7, 0)] []) (
  .cond (.r 7) (
  .skip) (
  .exit 0))) (
  .seq (.block 1 (
  .seq (.seq (.reg true [⟨none, .mov (.r 5)⟩,
    ⟨none, .un .not (.l 0)⟩,
    ⟨none, .mov (.l 0)⟩,
    ⟨some (0, true), .fa 0 (.r 2)⟩,
    ⟨some (1, true), .ld true 17 (.l 0)⟩,
    ⟨some (2, true), .mov (.r 0)⟩,
    ⟨some (3, true), .mov (.r 6)⟩,
    ⟨some (4, true), .ixa 20 (.l 1) (.l 0)⟩,
    ⟨some (5, true), .fa 0 (.l 0)⟩,
    ⟨some (6, true), .ld true 17 (.l 0)⟩,
    ⟨some (7, true), .vc 67 [(.l 5), (.l 0)]⟩,
    ⟨some (8, true), .bin .lss (.l 0) (.v (.c (.d (.int .i64 0))))⟩,
    ⟨none, .pick (.l 9) (.l 0) (.v (.c (.d (.bool false))))⟩] [(8, 0)] []) (
  .cond (.r 8) (
  .seq (.reg false [⟨none, .mov (.r 4)⟩,
    ⟨none, .ld true 20 (.r 2)⟩,
    ⟨none, .bsl 1 20 [.int .u8 0, .int .u32 0, .int .u32 0, .int .u32 0, .int .u32 0, .int .u32 0, .int .u32 0, .int .u32 0, .int .u32 0, .int .u32 0, .int .u32 0, .int .u32 0, .int .u32 0, .int .u32 0, .int .u32 0, .int .u32 0, .int .u32 0, .nils, .nils, .nils] [(0, 20, (.l 0))]⟩,
    ⟨none, .app 20 (.l 2) (.l 0)⟩,
    ⟨none, .mov (.l 0)⟩] [(4, 0)] []) (
  .reg false [⟨none, .mov (.v (.c (.d (.bool true))))⟩] [(5, 0)] [])) (
  .skip))) (
  .reg false [⟨none, .mov (.r 4)⟩,
    ⟨none, .mov (.r 0)⟩,
    ⟨none, .mov (.r 6)⟩,
    ⟨none, .ixa 20 (.l 1) (.l 0)⟩,
    ⟨none, .ld true 20 (.l 0)⟩,
    ⟨none, .bsl 1 20 [.int .u8 0, .int .u32 0, .int .u32 0, .int .u32 0, .int .u32 0, .int .u32 0, .int .u32 0, .int .u32 0, .int .u32 0, .int .u32 0, .int .u32 0, .int .u32 0, .int .u32 0, .int .u32 0, .int .u32 0, .int .u32 0, .int .u32 0, .nils, .nils, .nils] [(0, 20, (.l 0))]⟩,
    ⟨none, .app 20 (.l 5) (.l 0)⟩,
    ⟨none, .mov (.l 0)⟩] [(4, 0)] []))) (
  .reg false [⟨none, .mov (.r 6)⟩,
    ⟨none, .bin .add (.l 0) (.v (.c (.d (.int .i64 1))))⟩,
    ⟨none, .mov (.l 0)⟩] [(6, 0)] []))))))) (
  .seq (.seq (.reg false [⟨none, .mov (.r 5)⟩,
    ⟨none, .un .not (.l 0)⟩] [(9, 0)] []) (
  .cond (.r 9) (
  .reg false [⟨none, .mov (.r 4)⟩,
    ⟨none, .ld true 20 (.r 2)⟩,
    ⟨none, .bsl 1 20 [.int .u8 0, .int .u32 0, .int .u32 0, .int .u32 0, .int .u32 0, .int .u32 0, .int .u32 0, .int .u32 0, .int .u32 0, .int .u32 0, .int .u32 0, .int .u32 0, .int .u32 0, .int .u32 0, .int .u32 0, .int .u32 0, .int .u32 0, .nils, .nils, .nils] [(0, 20, (.l 0))]⟩,
    ⟨none, .app 20 (.l 2) (.l 0)⟩,
    ⟨none, .mov (.l 0)⟩] [(4, 0)] []) (
  .skip))) (
  .seq (.reg false [⟨none, .mov (.r 4)⟩,
    ⟨none, .mov (.l 0)⟩] [(3, 0)] []) (
  .ret))))))⟩

/-- vidimus/vidimusref34.Listed -/
def fn58 : Fn := ⟨2, 8, [0, 1, 2, 3, 4, 5, 10, 20], [.r 4],
  .seq (.reg false [⟨none, .box (.r 0)⟩,
    ⟨none, .box (.r 1)⟩,
    ⟨none, .mov (.v (.c (.d (.int .i64 0))))⟩] [(2, 2), (3, 1), (4, 0)] []) (
  .seq (.seq (.reg false [⟨none, .mov (.v (.c (.d (.int .i64 0))))⟩] [(5, 0)] []) (
  .block 0 (
  .loop (some [2, 3, 5]) (
  .seq (.seq (.reg false [⟨none, .mov (.r 5)⟩,
    ⟨none, .fa 2 (.r 2)⟩,
    ⟨none, .ld false 1 (.l 0)⟩,
    ⟨none, .len (.l 0)⟩,
    ⟨none, .bin .lss (.l 3) (.l 0)⟩] [(6, 0)] []) (
  .cond (.r 6) (
  .skip) (
  .exit 0))) (
  .seq (.block 1 (
  .seq (.reg true [⟨none, .fa 2 (.r 2)⟩,
    ⟨none, .ld false 1 (.l 0)⟩,
    ⟨none, .mov (.r 5)⟩,
    ⟨none, .ixa 18 (.l 1) (.l 0)⟩,
    ⟨none, .fa 0 (.l 0)⟩,
    ⟨none, .ld true 17 (.l 0)⟩,
    ⟨none, .ld true 17 (.r 3)⟩,
    ⟨none, .eqa false 17 (.l 1) (.l 0)⟩] [(7, 0)] []) (
  .cond (.r 7) (
  .seq (.reg false [⟨none, .mov (.r 5)⟩,
    ⟨none, .mov (.l 0)⟩] [(4, 0)] []) (
  .ret)) (
  .skip)))) (
  .reg false [⟨none, .mov (.r 5)⟩,
    ⟨none, .bin .add (.l 0) (.v (.c (.d (.int .i64 1))))⟩,
    ⟨none, .mov (.l 0)⟩] [(5, 0)] [])))))) (
  .seq (.reg false [⟨none, .mov (.v (.c (.d (.int .i64 (-1)))))⟩] [(4, 0)] []) (
  .ret)))⟩

/-- vidimus/vidimusref34.With -/
def fn59 : Fn := ⟨2, 10, [0, 1, 3, 4, 5, 6, 7, 14, 27, 40], [.r 3],
  .seq (.reg false [⟨none, .box (.r 1)⟩,
    ⟨none, .mov (.v (.c (.d (.nils))))⟩] [(2, 1), (3, 0)] []) (
  .seq (.reg false [⟨none, .mov (.v (.c (.d (.nils))))⟩] [(4, 0)] []) (
  .seq (.reg false [⟨none, .mov (.r 0)⟩,
    ⟨none, .ld true 17 (.r 2)⟩,
    ⟨none, .vc 66 [(.l 1), (.l 0)]⟩,
    ⟨none, .mov (.l 0)⟩] [(5, 0)] []) (
  .seq (.seq (.reg false [⟨none, .mov (.v (.c (.d (.int .i64 0))))⟩] [(6, 0)] []) (
  .block 0 (
  .seq (.fresh 4 none 17) (
  .loop (some [0, 2, 4, 5, 6]) (
  .seq (.seq (.reg false [⟨none, .mov (.r 6)⟩,
    ⟨none, .mov (.r 0)⟩,
    ⟨none, .len (.l 0)⟩,
    ⟨none, .bin .lss (.l 2) (.l 0)⟩] [(7, 0)] []) (
  .cond (.r 7) (
  .skip) (
  .exit 0))) (
  .seq (.block 1 (
  .seq (.seq (.reg true [⟨none, .mov (.r 5)⟩,
    ⟨none, .un .not (.l 0)⟩,
    ⟨none, .mov (.l 0)⟩,
    ⟨some (0, true), .ld true 17 (.r 2)⟩,
    ⟨some (1, true), .mov (.r 0)⟩,
    ⟨some (2, true), .mov (.r 6)⟩,
    ⟨some (3, true), .ixa 17 (.l 1) (.l 0)⟩,
    ⟨some (4, true), .ld true 17 (.l 0)⟩,
    ⟨some (5, true), .vc 67 [(.l 4), (.l 0)]⟩,
    ⟨some (6, true), .bin .lss (.l 0) (.v (.c (.d (.int .i64 0))))⟩,
    ⟨none, .pick (.l 7) (.l 0) (.v (.c (.d (.bool false))))⟩] [(8, 0)] []) (
  .cond (.r 8) (
  .seq (.reg false [⟨none, .mov (.r 4)⟩,
    ⟨none, .ld true 17 (.r 2)⟩,
    ⟨none, .bsl 1 17 [.int .u8 0, .int .u32 0, .int .u32 0, .int .u32 0, .int .u32 0, .int .u32 0, .int .u32 0, .int .u32 0, .int .u32 0, .int .u32 0, .int .u32 0, .int .u32 0, .int .u32 0, .int .u32 0, .int .u32 0, .int .u32 0, .int .u32 0] [(0, 17, (.l 0))]⟩,
    ⟨none, .app 17 (.l 2) (.l 0)⟩,
    ⟨none, .mov (.l 0)⟩] [(4, 0)] []) (
  .reg false [⟨none, .mov (.v (.c (.d (.bool true))))⟩] [(5, 0)] [])) (
  .skip))) (
  .reg false [⟨none, .mov (.r 4)⟩,
    ⟨none, .mov (.r 0)⟩,
    ⟨none, .mov (.r 6)⟩,
    ⟨none, .ixa 17 (.l 1) (.l 0)⟩,
    ⟨none, .ld true 17 (.l 0)⟩,
    ⟨none, .bsl 1 17 [.int .u8 0, .int .u32 0, .int .u32 0, .int .u32 0, .int .u32 0, .int .u32 0, .int .u32 0, .int .u32 0, .int .u32 0, .int .u32 0, .int .u32 0, .int .u32 0, .int .u32 0, .int .u32 0, .int .u32 0, .int .u32 0, .int .u32 0] [(0, 17, (.l 0))]⟩,
    ⟨none, .app 17 (.l 5) (.l 0)⟩,
    ⟨none, .mov (.l 0)⟩] [(4, 0)] []))) (
  .reg false [⟨none, .mov (.r 6)⟩,
    ⟨none, .bin .add (.l 0) (.v (.c (.d (.int .i64 1))))⟩,
    ⟨none, .mov (.l 0)⟩] [(6, 0)] []))))))) (
  .seq (.seq (.reg false [⟨none, .mov (.r 5)⟩,
    ⟨none, .un .not (.l 0)⟩] [(9, 0)] []) (
  .cond (.r 9) (
  .reg false [⟨none, .mov (.r 4)⟩,
    ⟨none, .ld true 17 (.r 2)⟩,
    ⟨none, .bsl 1 17 [.int .u8 0, .int .u32 0, .int .u32 0, .int .u32 0, .int .u32 0, .int .u32 0, .int .u32 0, .int .u32 0, .int .u32 0, .int .u32 0, .int .u32 0, .int .u32 0, .int .u32 0, .int .u32 0, .int .u32 0, .int .u32 0, .int .u32 0] [(0, 17, (.l 0))]⟩,
    ⟨none, .app 17 (.l 2) (.l 0)⟩,
    ⟨none, .mov (.l 0)⟩] [(4, 0)] []) (
  .skip))) (
  .seq (.reg false [⟨none, .mov (.r 4)⟩,
    ⟨none, .mov (.l 0)⟩] [(3, 0)] []) (
  .ret))))))⟩

/-- internal/strconv.small -/
def fn60 : Fn := ⟨1, 3, [0, 2, 4], [.r 1],
  .seq (.reg false [⟨none, .mov (.v (.c (.d (.str []))))⟩] [(1, 0)] []) (
  .seq (.seq (.reg false [⟨none, .mov (.r 0)⟩,
    ⟨none, .bin .lss (.l 0) (.v (.c (.d (.int .i64 10))))⟩] [(2, 0)] []) (
  .cond (.r 2) (
  .seq (.reg false [⟨none, .mov (.r 0)⟩,
    ⟨none, .mov (.r 0)⟩,
    ⟨none, .bin .add (.l 0) (.v (.c (.d (.int .i64 1))))⟩,
    ⟨none, .sls (.v (.c (.d (.str [48, 49, 50, 51, 52, 53, 54, 55, 56, 57, 97, 98, 99, 100, 101, 102, 103, 104, 105, 106, 107, 108, 109, 110, 111, 112, 113, 114, 115, 116, 117, 118, 119, 120, 121, 122])))) (some (.l 2)) (some (.l 0))⟩,
    ⟨none, .mov (.l 0)⟩] [(1, 0)] []) (
  .ret)) (
  .skip))) (
  .seq (.reg false [⟨none, .mov (.r 0)⟩,
    ⟨none, .bin .mul (.l 0) (.v (.c (.d (.int .i64 2))))⟩,
    ⟨none, .mov (.r 0)⟩,
    ⟨none, .bin .mul (.l 0) (.v (.c (.d (.int .i64 2))))⟩,
    ⟨none, .bin .add (.l 0) (.v (.c (.d (.int .i64 2))))⟩,
    ⟨none, .sls (.v (.c (.d (.str [48, 48, 48, 49, 48, 50, 48, 51, 48, 52, 48, 53, 48, 54, 48, 55, 48, 56, 48, 57, 49, 48, 49, 49, 49, 50, 49, 51, 49, 52, 49, 53, 49, 54, 49, 55, 49, 56, 49, 57, 50, 48, 50, 49, 50, 50, 50, 51, 50, 52, 50, 53, 50, 54, 50, 55, 50, 56, 50, 57, 51, 48, 51, 49, 51, 50, 51, 51, 51, 52, 51, 53, 51, 54, 51, 55, 51, 56, 51, 57, 52, 48, 52, 49, 52, 50, 52, 51, 52, 52, 52, 53, 52, 54, 52, 55, 52, 56, 52, 57, 53, 48, 53, 49, 53, 50, 53, 51, 53, 52, 53, 53, 53, 54, 53, 55, 53, 56, 53, 57, 54, 48, 54, 49, 54, 50, 54, 51, 54, 52, 54, 53, 54, 54, 54, 55, 54, 56, 54, 57, 55, 48, 55, 49, 55, 50, 55, 51, 55, 52, 55, 53, 55, 54, 55, 55, 55, 56, 55, 57, 56, 48, 56, 49, 56, 50, 56, 51, 56, 52, 56, 53, 56, 54, 56, 55, 56, 56, 56, 57, 57, 48, 57, 49, 57, 50, 57, 51, 57, 52, 57, 53, 57, 54, 57, 55, 57, 56, 57, 57])))) (some (.l 3)) (some (.l 0))⟩,
    ⟨none, .mov (.l 0)⟩] [(1, 0)] []) (
  .ret)))⟩

/-- internal/strconv.numDigits -/
def fn61 : Fn := ⟨1, 3, [0, 2, 3], [.r 1],
  .seq (.reg false [⟨none, .mov (.v (.c (.d (.int .i64 0))))⟩] [(1, 0)] []) (
  .seq (.reg false [⟨none, .mov (.r 0)⟩,
    ⟨none, .vc 69 [(.l 0)]⟩,
    ⟨none, .vc 68 [(.l 0)]⟩,
    ⟨none, .mov (.l 0)⟩] [(2, 0)] []) (
  .seq (.reg false [⟨none, .mov (.r 2)⟩,
    ⟨none, .mov (.r 0)⟩,
    ⟨none, .mov (.r 2)⟩,
    ⟨none, .ixp 20 1 (.g 0) (.l 0)⟩,
    ⟨none, .ld false 1 (.l 0)⟩,
    ⟨none, .bin .geq (.l 3) (.l 0)⟩,
    ⟨none, .vc 70 [(.l 0)]⟩,
    ⟨none, .bin .add (.l 6) (.l 0)⟩,
    ⟨none, .mov (.l 0)⟩] [(1, 0)] []) (
  .ret)))⟩

/-- vidimus/vidimusref34.Has -/
def fn66 : Fn := ⟨2, 7, [0, 1, 3, 4, 5, 9, 17], [.r 3],
  .seq (.reg false [⟨none, .box (.r 1)⟩,
    ⟨none, .mov (.v (.c (.d (.bool false))))⟩] [(2, 1), (3, 0)] []) (
  .seq (.seq (.reg false [⟨none, .mov (.v (.c (.d (.int .i64 0))))⟩] [(4, 0)] []) (
  .block 0 (
  .loop (some [0, 2, 4]) (
  .seq (.seq (.reg false [⟨none, .mov (.r 4)⟩,
    ⟨none, .mov (.r 0)⟩,
    ⟨none, .len (.l 0)⟩,
    ⟨none, .bin .lss (.l 2) (.l 0)⟩] [(5, 0)] []) (
  .cond (.r 5) (
  .skip) (
  .exit 0))) (
  .seq (.block 1 (
  .seq (.reg true [⟨none, .mov (.r 0)⟩,
    ⟨none, .mov (.r 4)⟩,
    ⟨none, .ixa 17 (.l 1) (.l 0)⟩,
    ⟨none, .ld true 17 (.l 0)⟩,
    ⟨none, .ld true 17 (.r 2)⟩,
    ⟨none, .eqa false 17 (.l 1) (.l 0)⟩] [(6, 0)] []) (
  .cond (.r 6) (
  .seq (.reg false [⟨none, .mov (.v (.c (.d (.bool true))))⟩] [(3, 0)] []) (
  .ret)) (
  .skip)))) (
  .reg false [⟨none, .mov (.r 4)⟩,
    ⟨none, .bin .add (.l 0) (.v (.c (.d (.int .i64 1))))⟩,
    ⟨none, .mov (.l 0)⟩] [(4, 0)] [])))))) (
  .seq (.reg false [⟨none, .mov (.v (.c (.d (.bool false))))⟩] [(3, 0)] []) (
  .ret)))⟩

/-- vidimus/vidimusref34.Compare -/
def fn67 : Fn := ⟨2, 12, [0, 1, 2, 3, 4, 5, 7, 21, 30, 39, 44, 49], [.r 4],
  .seq (.reg false [⟨none, .box (.r 0)⟩,
    ⟨none, .box (.r 1)⟩,
    ⟨none, .mov (.v (.c (.d (.int .i64 0))))⟩] [(2, 2), (3, 1), (4, 0)] []) (
  .seq (.seq (.reg false [⟨none, .mov (.v (.c (.d (.int .i64 0))))⟩] [(5, 0)] []) (
  .block 0 (
  .loop (some [2, 3, 5]) (
  .seq (.seq (.reg false [⟨none, .mov (.r 5)⟩,
    ⟨none, .bin .lss (.l 0) (.v (.c (.d (.int .i64 16))))⟩] [(6, 0)] []) (
  .cond (.r 6) (
  .skip) (
  .exit 0))) (
  .seq (.block 1 (
  .seq (.seq (.reg false [⟨none, .mov (.r 5)⟩,
    ⟨none, .fa 0 (.r 2)⟩,
    ⟨none, .ld false 1 (.l 0)⟩,
    ⟨none, .cvi .i64 (.l 0)⟩,
    ⟨none, .bin .geq (.l 3) (.l 0)⟩,
    ⟨none, .mov (.l 0)⟩,
    ⟨some (0, false), .mov (.r 5)⟩,
    ⟨some (1, false), .fa 0 (.r 3)⟩,
    ⟨some (2, false), .ld false 1 (.l 0)⟩,
    ⟨some (3, false), .cvi .i64 (.l 0)⟩,
    ⟨some (4, false), .bin .geq (.l 3) (.l 0)⟩,
    ⟨none, .pick (.l 5) (.v (.c (.d (.bool true)))) (.l 0)⟩] [(7, 0)] []) (
  .cond (.r 7) (
  .exit 0) (
  .skip))) (
  .seq (.seq (.reg true [⟨none, .mov (.r 5)⟩,
    ⟨none, .fa 1 (.r 2)⟩,
    ⟨none, .ixp 16 1 (.l 0) (.l 1)⟩,
    ⟨none, .ld false 1 (.l 0)⟩,
    ⟨none, .mov (.r 5)⟩,
    ⟨none, .fa 1 (.r 3)⟩,
    ⟨none, .ixp 16 1 (.l 0) (.l 1)⟩,
    ⟨none, .ld false 1 (.l 0)⟩,
    ⟨none, .bin .lss (.l 4) (.l 0)⟩] [(8, 0)] []) (
  .cond (.r 8) (
  .seq (.reg false [⟨none, .mov (.v (.c (.d (.int .i64 (-1)))))⟩] [(4, 0)] []) (
  .ret)) (
  .skip))) (
  .seq (.reg true [⟨none, .mov (.r 5)⟩,
    ⟨none, .fa 1 (.r 2)⟩,
    ⟨none, .ixp 16 1 (.l 0) (.l 1)⟩,
    ⟨none, .ld false 1 (.l 0)⟩,
    ⟨none, .mov (.r 5)⟩,
    ⟨none, .fa 1 (.r 3)⟩,
    ⟨none, .ixp 16 1 (.l 0) (.l 1)⟩,
    ⟨none, .ld false 1 (.l 0)⟩,
    ⟨none, .bin .gtr (.l 4) (.l 0)⟩] [(9, 0)] []) (
  .cond (.r 9) (
  .seq (.reg false [⟨none, .mov (.v (.c (.d (.int .i64 1))))⟩] [(4, 0)] []) (
  .ret)) (
  .skip)))))) (
  .reg false [⟨none, .mov (.r 5)⟩,
    ⟨none, .bin .add (.l 0) (.v (.c (.d (.int .i64 1))))⟩,
    ⟨none, .mov (.l 0)⟩] [(5, 0)] [])))))) (
  .seq (.seq (.reg false [⟨none, .fa 0 (.r 2)⟩,
    ⟨none, .ld false 1 (.l 0)⟩,
    ⟨none, .fa 0 (.r 3)⟩,
    ⟨none, .ld false 1 (.l 0)⟩,
    ⟨none, .bin .lss (.l 2) (.l 0)⟩] [(10, 0)] []) (
  .cond (.r 10) (
  .seq (.reg false [⟨none, .mov (.v (.c (.d (.int .i64 (-1)))))⟩] [(4, 0)] []) (
  .ret)) (
  .skip))) (
  .seq (.seq (.reg false [⟨none, .fa 0 (.r 2)⟩,
    ⟨none, .ld false 1 (.l 0)⟩,
    ⟨none, .fa 0 (.r 3)⟩,
    ⟨none, .ld false 1 (.l 0)⟩,
    ⟨none, .bin .gtr (.l 2) (.l 0)⟩] [(11, 0)] []) (
  .cond (.r 11) (
  .seq (.reg false [⟨none, .mov (.v (.c (.d (.int .i64 1))))⟩] [(4, 0)] []) (
  .ret)) (
  .skip))) (
  .seq (.reg false [⟨none, .mov (.v (.c (.d (.int .i64 0))))⟩] [(4, 0)] []) (
  .ret)))))⟩

/-- internal/strconv.log10Pow2 -/
def fn68 : Fn := ⟨1, 2, [0, 2], [.r 1],
  .seq (.reg false [⟨none, .mov (.v (.c (.d (.int .i64 0))))⟩] [(1, 0)] []) (
  .seq (.reg false [⟨none, .mov (.r 0)⟩,
    ⟨none, .bin .mul (.l 0) (.v (.c (.d (.int .i64 78913))))⟩,
    ⟨none, .bin .shr (.l 0) (.v (.c (.d (.int .u64 18))))⟩,
    ⟨none, .mov (.l 0)⟩] [(1, 0)] []) (
  .ret))⟩

/-- math/bits.Len64 -/
def fn69 : Fn := ⟨1, 5, [0, 2, 4, 8, 14], [.r 1],
  .seq (.reg false [⟨none, .mov (.v (.c (.d (.int .i64 0))))⟩] [(1, 0)] []) (
  .seq (.seq (.reg false [⟨none, .mov (.r 0)⟩,
    ⟨none, .bin .geq (.l 0) (.v (.c (.d (.int .u64 4294967296))))⟩] [(2, 0)] []) (
  .cond (.r 2) (
  .seq (.reg false [⟨none, .mov (.r 0)⟩,
    ⟨none, .bin .shr (.l 0) (.v (.c (.d (.int .u64 32))))⟩,
    ⟨none, .mov (.l 0)⟩] [(0, 0)] []) (
  .reg false [⟨none, .mov (.v (.c (.d (.int .i64 32))))⟩] [(1, 0)] [])) (
  .skip))) (
  .seq (.seq (.reg false [⟨none, .mov (.r 0)⟩,
    ⟨none, .bin .geq (.l 0) (.v (.c (.d (.int .u64 65536))))⟩] [(3, 0)] []) (
  .cond (.r 3) (
  .seq (.reg false [⟨none, .mov (.r 0)⟩,
    ⟨none, .bin .shr (.l 0) (.v (.c (.d (.int .u64 16))))⟩,
    ⟨none, .mov (.l 0)⟩] [(0, 0)] []) (
  .reg false [⟨none, .mov (.r 1)⟩,
    ⟨none, .bin .add (.l 0) (.v (.c (.d (.int .i64 16))))⟩,
    ⟨none, .mov (.l 0)⟩] [(1, 0)] [])) (
  .skip))) (
  .seq (.seq (.reg false [⟨none, .mov (.r 0)⟩,
    ⟨none, .bin .geq (.l 0) (.v (.c (.d (.int .u64 256))))⟩] [(4, 0)] []) (
  .cond (.r 4) (
  .seq (.reg false [⟨none, .mov (.r 0)⟩,
    ⟨none, .bin .shr (.l 0) (.v (.c (.d (.int .u64 8))))⟩,
    ⟨none, .mov (.l 0)⟩] [(0, 0)] []) (
  .reg false [⟨none, .mov (.r 1)⟩,
    ⟨none, .bin .add (.l 0) (.v (.c (.d (.int .i64 8))))⟩,
    ⟨none, .mov (.l 0)⟩] [(1, 0)] [])) (
  .skip))) (
  .seq (.reg false [⟨none, .mov (.r 1)⟩,
    ⟨none, .mov (.r 0)⟩,
    ⟨none, .cvi .u8 (.l 0)⟩,
    ⟨none, .ixs (.v (.c (.d (.str [0, 1, 2, 2, 3, 3, 3, 3, 4, 4, 4, 4, 4, 4, 4, 4, 5, 5, 5, 5, 5, 5, 5, 5, 5, 5, 5, 5, 5, 5, 5, 5, 6, 6, 6, 6, 6, 6, 6, 6, 6, 6, 6, 6, 6, 6, 6, 6, 6, 6, 6, 6, 6, 6, 6, 6, 6, 6, 6, 6, 6, 6, 6, 6, 7, 7, 7, 7, 7, 7, 7, 7, 7, 7, 7, 7, 7, 7, 7, 7, 7, 7, 7, 7, 7, 7, 7, 7, 7, 7, 7, 7, 7, 7, 7, 7, 7, 7, 7, 7, 7, 7, 7, 7, 7, 7, 7, 7, 7, 7, 7, 7, 7, 7, 7, 7, 7, 7, 7, 7, 7, 7, 7, 7, 7, 7, 7, 7, 8, 8, 8, 8, 8, 8, 8, 8, 8, 8, 8, 8, 8, 8, 8, 8, 8, 8, 8, 8, 8, 8, 8, 8, 8, 8, 8, 8, 8, 8, 8, 8, 8, 8, 8, 8, 8, 8, 8, 8, 8, 8, 8, 8, 8, 8, 8, 8, 8, 8, 8, 8, 8, 8, 8, 8, 8, 8, 8, 8, 8, 8, 8, 8, 8, 8, 8, 8, 8, 8, 8, 8, 8, 8, 8, 8, 8, 8, 8, 8, 8, 8, 8, 8, 8, 8, 8, 8, 8, 8, 8, 8, 8, 8, 8, 8, 8, 8, 8, 8, 8, 8, 8, 8, 8, 8, 8, 8, 8, 8, 8, 8, 8, 8, 8, 8, 8, 8, 8, 8, 8, 8, 8, 8, 8, 8, 8, 8])))) (.l 0)⟩,
    ⟨none, .cvi .i64 (.l 0)⟩,
    ⟨none, .bin .add (.l 4) (.l 0)⟩,
    ⟨none, .mov (.l 0)⟩] [(1, 0)] []) (
  .ret)))))⟩

/-- internal/strconv.bool2[int] -/
def fn70 : Fn := ⟨1, 3, [0, 2, 3], [.r 1],
  .seq (.reg false [⟨none, .mov (.v (.c (.d (.int .i64 0))))⟩] [(1, 0)] []) (
  .seq (.seq (.reg false [⟨none, .mov (.r 0)⟩] [(2, 0)] []) (
  .cond (.r 2) (
  .seq (.reg false [⟨none, .mov (.v (.c (.d (.int .i64 1))))⟩] [(1, 0)] []) (
  .ret)) (
  .skip))) (
  .seq (.reg false [⟨none, .mov (.v (.c (.d (.int .i64 0))))⟩] [(1, 0)] []) (
  .ret)))⟩

def fns : FuncId → Option Fn
  | 3 => some fn3
  | 4 => some fn4
  | 5 => some fn5
  | 6 => some fn6
  | 7 => some fn7
  | 8 => some fn8
  | 9 => some fn9
  | 10 => some fn10
  | 11 => some fn11
  | 12 => some fn12
  | 13 => some fn13
  | 14 => some fn14
  | 15 => some fn15
  | 16 => some fn16
  | 17 => some fn17
  | 18 => some fn18
  | 19 => some fn19
  | 20 => some fn20
  | 21 => some fn21
  | 22 => some fn22
  | 23 => some fn23
  | 24 => some fn24
  | 25 => some fn25
  | 26 => some fn26
  | 27 => some fn27
  | 28 => some fn28
  | 29 => some fn29
  | 30 => some fn30
  | 31 => some fn31
  | 32 => some fn32
  | 33 => some fn33
  | 34 => some fn34
  | 35 => some fn35
  | 36 => some fn36
  | 37 => some fn37
  | 38 => some fn38
  | 39 => some fn39
  | 40 => some fn40
  | 41 => some fn41
  | 42 => some fn42
  | 43 => some fn43
  | 44 => some fn44
  | 45 => some fn45
  | 47 => some fn47
  | 48 => some fn48
  | 49 => some fn49
  | 50 => some fn50
  | 51 => some fn51
  | 55 => some fn55
  | 56 => some fn56
  | 57 => some fn57
  | 58 => some fn58
  | 59 => some fn59
  | 60 => some fn60
  | 61 => some fn61
  | 66 => some fn66
  | 67 => some fn67
  | 68 => some fn68
  | 69 => some fn69
  | 70 => some fn70
  | _ => none
end Mini
end Go.Proofs.YtcilepbdddgpoaaDoor
