/-
  Forms of functions, each loop by a name of its own. Printed by a program of ours (tools/mkloop.py).
-/
import Derived.Test.YtcilepbdddgpoaaDoorMiniN
namespace Go.Proofs.YtcilepbdddgpoaaDoor
namespace Mini

def fn11' : Fn := ⟨2, 6, [0, 1, 4, 5, 6, 14], [.r 2, .r 3, .r 4],
  .seq (.reg false [⟨none, .mov (.v (.c (.d (.int .i64 0))))⟩,
    ⟨none, .mov (.v (.c (.d (.int .i64 0))))⟩,
    ⟨none, .mov (.v (.c (.d (.int .i64 0))))⟩] [(2, 2), (3, 1), (4, 0)] []) (
  .seq (.seq (.reg false [⟨none, .mov (.r 0)⟩,
    ⟨none, .vc 27 [(.l 0), (.v (.c (.d (.int .i64 1)))), (.v (.c (.d (.int .i64 64))))]⟩,
    ⟨none, .un .not (.l 0)⟩,
    ⟨none, .mov (.l 0)⟩,
    ⟨some (0, false), .mov (.r 1)⟩,
    ⟨some (1, false), .vc 27 [(.l 0), (.v (.c (.d (.int .i64 1)))), (.v (.c (.d (.int .i64 8))))]⟩,
    ⟨some (2, false), .un .not (.l 0)⟩,
    ⟨none, .pick (.l 3) (.v (.c (.d (.bool true)))) (.l 0)⟩] [(5, 0)] []) (
  .cond (.r 5) (
  .seq (.reg false [⟨none, .mov (.v (.c (.d (.int .i64 0))))⟩,
    ⟨none, .mov (.v (.c (.d (.int .i64 0))))⟩,
    ⟨none, .mov (.v (.c (.d (.int .i64 1))))⟩] [(2, 2), (3, 1), (4, 0)] []) (
  .ret)) (
  .skip))) (
  .seq (.reg false [⟨none, .mov (.r 0)⟩,
    ⟨none, .mov (.r 1)⟩,
    ⟨none, .bin .mul (.l 1) (.l 0)⟩,
    ⟨none, .bin .add (.l 0) (.v (.c (.d (.int .i64 1))))⟩,
    ⟨none, .mov (.r 1)⟩,
    ⟨none, .mov (.r 0)⟩,
    ⟨none, .bin .sub (.l 0) (.v (.c (.d (.int .i64 1))))⟩,
    ⟨none, .mov (.r 1)⟩,
    ⟨none, .bin .mul (.l 1) (.l 0)⟩,
    ⟨none, .mov (.r 1)⟩,
    ⟨none, .bin .mul (.l 1) (.l 0)⟩,
    ⟨none, .bin .add (.l 6) (.l 0)⟩,
    ⟨none, .mov (.l 8)⟩,
    ⟨none, .mov (.l 1)⟩,
    ⟨none, .mov (.v (.c (.d (.int .i64 0))))⟩] [(2, 2), (3, 1), (4, 0)] []) (
  .ret)))⟩
theorem fn11_is : fn11 = fn11' := rfl

def fn19' : Fn := ⟨4, 7, [0, 1, 2, 3, 8, 9, 20], [.r 4, .r 5],
  .seq (.reg false [⟨none, .mov (.v (.c (.d (.int .i64 0))))⟩,
    ⟨none, .mov (.v (.c (.d (.int .i64 0))))⟩] [(4, 1), (5, 0)] []) (
  .seq (.seq (.reg false [⟨none, .mov (.r 0)⟩,
    ⟨none, .mov (.r 1)⟩,
    ⟨none, .mov (.r 2)⟩,
    ⟨none, .vc 37 [(.l 2), (.l 1), (.l 0)]⟩,
    ⟨none, .un .not (.l 0)⟩,
    ⟨none, .mov (.l 0)⟩,
    ⟨some (0, false), .mov (.r 3)⟩,
    ⟨some (1, false), .mov (.r 0)⟩,
    ⟨some (2, false), .vc 27 [(.l 1), (.v (.c (.d (.int .i64 0)))), (.l 0)]⟩,
    ⟨some (3, false), .un .not (.l 0)⟩,
    ⟨none, .pick (.l 4) (.v (.c (.d (.bool true)))) (.l 0)⟩] [(6, 0)] []) (
  .cond (.r 6) (
  .seq (.reg false [⟨none, .mov (.v (.c (.d (.int .i64 0))))⟩,
    ⟨none, .mov (.v (.c (.d (.int .i64 1))))⟩] [(4, 1), (5, 0)] []) (
  .ret)) (
  .skip))) (
  .seq (.reg false [⟨none, .mov (.r 0)⟩,
    ⟨none, .mov (.r 1)⟩,
    ⟨none, .mov (.r 2)⟩,
    ⟨none, .mov (.r 3)⟩,
    ⟨none, .vc 39 [(.l 3), (.l 2), (.l 1), (.l 0)]⟩,
    ⟨none, .mov (.l 0)⟩,
    ⟨none, .mov (.v (.c (.d (.int .i64 0))))⟩] [(4, 1), (5, 0)] []) (
  .ret)))⟩
theorem fn19_is : fn19 = fn19' := rfl

def fn37' : Fn := ⟨3, 4, [0, 1, 2, 6], [.r 3],
  .seq (.reg false [⟨none, .mov (.v (.c (.d (.bool false))))⟩] [(3, 0)] []) (
  .seq (.reg false [⟨none, .mov (.r 0)⟩,
    ⟨none, .vc 27 [(.l 0), (.v (.c (.d (.int .i64 1)))), (.v (.c (.d (.int .i64 64))))]⟩,
    ⟨none, .mov (.l 0)⟩,
    ⟨some (0, true), .mov (.r 1)⟩,
    ⟨some (1, true), .vc 27 [(.l 0), (.v (.c (.d (.int .i64 0)))), (.v (.c (.d (.int .i64 63))))]⟩,
    ⟨none, .pick (.l 2) (.l 0) (.v (.c (.d (.bool false))))⟩,
    ⟨none, .mov (.l 0)⟩,
    ⟨some (0, true), .mov (.r 2)⟩,
    ⟨some (1, true), .vc 27 [(.l 0), (.v (.c (.d (.int .i64 0)))), (.v (.c (.d (.int .i64 64))))]⟩,
    ⟨none, .pick (.l 2) (.l 0) (.v (.c (.d (.bool false))))⟩,
    ⟨none, .mov (.l 0)⟩] [(3, 0)] []) (
  .ret))⟩
theorem fn37_is : fn37 = fn37' := rfl

def fn39' : Fn := ⟨4, 8, [0, 1, 2, 3, 8, 9, 10, 12], [.r 4],
  .seq (.reg false [⟨none, .mov (.v (.c (.d (.int .i64 0))))⟩] [(4, 0)] []) (
  .seq (.seq (.reg false [⟨none, .mov (.r 3)⟩] [(5, 0)] []) (
  .block 0 (
  .seq (.reg false [⟨none, .bin .eql (.r 5) (.v (.c (.d (.int .i64 0))))⟩,
    ⟨none, .mov (.l 0)⟩] [(6, 0)] []) (
  .cond (.r 6) (
  .seq (.reg false [⟨none, .mov (.v (.c (.d (.int .i64 1))))⟩] [(4, 0)] []) (
  .ret)) (
  .seq (.reg false [⟨none, .mov (.r 0)⟩,
    ⟨none, .bin .eql (.r 5) (.l 0)⟩,
    ⟨none, .mov (.l 0)⟩] [(7, 0)] []) (
  .cond (.r 7) (
  .seq (.reg false [⟨none, .mov (.r 0)⟩,
    ⟨none, .mov (.r 1)⟩,
    ⟨none, .bin .mul (.l 1) (.l 0)⟩,
    ⟨none, .bin .add (.v (.c (.d (.int .i64 1)))) (.l 0)⟩,
    ⟨none, .mov (.r 0)⟩,
    ⟨none, .bin .sub (.l 0) (.v (.c (.d (.int .i64 1))))⟩,
    ⟨none, .mov (.r 2)⟩,
    ⟨none, .bin .mul (.l 1) (.l 0)⟩,
    ⟨none, .bin .add (.l 4) (.l 0)⟩,
    ⟨none, .mov (.l 0)⟩] [(4, 0)] []) (
  .ret)) (
  .skip))))))) (
  .seq (.reg false [⟨none, .mov (.r 3)⟩,
    ⟨none, .mov (.r 1)⟩,
    ⟨none, .mov (.r 2)⟩,
    ⟨none, .bin .add (.l 1) (.l 0)⟩,
    ⟨none, .bin .mul (.l 3) (.l 0)⟩,
    ⟨none, .bin .add (.v (.c (.d (.int .i64 1)))) (.l 0)⟩,
    ⟨none, .mov (.l 0)⟩] [(4, 0)] []) (
  .ret)))⟩
theorem fn39_is : fn39 = fn39' := rfl

def fn3' : Fn := ⟨2, 12, [0, 1, 4, 5, 6, 7, 8, 9, 10, 11, 12, 40], [.r 2],
  .seq (.reg false [⟨none, .mov (.v (.c (.d (.bool false))))⟩] [(2, 0)] []) (
  .seq (.reg false [⟨none, .mov (.r 0)⟩,
    ⟨none, .mov (.r 1)⟩,
    ⟨none, .hc (.v (.c (.d (.fn 9 [] [])))) [(.l 1), (.l 0)]⟩,
    ⟨none, .mov (.l 0)⟩,
    ⟨none, .ext (.l 0) 0⟩,
    ⟨none, .ext (.l 1) 1⟩,
    ⟨none, .ext (.l 2) 2⟩,
    ⟨none, .pre⟩,
    ⟨none, .mov (.l 3)⟩,
    ⟨none, .ini 4 (.l 3)⟩,
    ⟨none, .mov (.l 3)⟩] [(3, 2), (4, 1), (5, 0)] []) (
  .seq (.reg false [⟨none, .mov (.r 0)⟩,
    ⟨none, .mov (.r 1)⟩,
    ⟨none, .vc 10 [(.l 1), (.l 0)]⟩,
    ⟨none, .mov (.l 0)⟩,
    ⟨none, .ext (.l 0) 0⟩,
    ⟨none, .ext (.l 1) 1⟩,
    ⟨none, .mov (.l 1)⟩,
    ⟨none, .mov (.l 1)⟩] [(6, 1), (7, 0)] []) (
  .seq (.reg false [⟨none, .mov (.r 0)⟩,
    ⟨none, .mov (.r 1)⟩,
    ⟨none, .vc 11 [(.l 1), (.l 0)]⟩,
    ⟨none, .mov (.l 0)⟩,
    ⟨none, .ext (.l 0) 0⟩,
    ⟨none, .ext (.l 1) 1⟩,
    ⟨none, .ext (.l 2) 2⟩,
    ⟨none, .mov (.l 2)⟩,
    ⟨none, .mov (.l 2)⟩,
    ⟨none, .mov (.l 2)⟩] [(8, 2), (9, 1), (10, 0)] []) (
  .seq (.seq (.reg false [⟨none, .mov (.r 0)⟩,
    ⟨none, .vc 12 [(.l 0), (.v (.c (.d (.int .i64 1)))), (.v (.c (.d (.int .i64 64))))]⟩,
    ⟨none, .un .not (.l 0)⟩,
    ⟨none, .mov (.l 0)⟩,
    ⟨some (0, false), .mov (.r 1)⟩,
    ⟨some (1, false), .vc 12 [(.l 0), (.v (.c (.d (.int .i64 1)))), (.v (.c (.d (.int .i64 8))))]⟩,
    ⟨some (2, false), .un .not (.l 0)⟩,
    ⟨none, .pick (.l 3) (.v (.c (.d (.bool true)))) (.l 0)⟩] [(11, 0)] []) (
  .cond (.r 11) (
  .seq (.reg false [⟨none, .mov (.r 5)⟩,
    ⟨none, .bin .eql (.l 0) (.v (.c (.d (.int .i64 1))))⟩,
    ⟨none, .mov (.l 0)⟩,
    ⟨some (0, true), .mov (.r 7)⟩,
    ⟨some (1, true), .bin .eql (.l 0) (.v (.c (.d (.int .i64 1))))⟩,
    ⟨none, .pick (.l 2) (.l 0) (.v (.c (.d (.bool false))))⟩,
    ⟨none, .mov (.l 0)⟩,
    ⟨some (0, true), .mov (.r 10)⟩,
    ⟨some (1, true), .bin .eql (.l 0) (.v (.c (.d (.int .i64 1))))⟩,
    ⟨none, .pick (.l 2) (.l 0) (.v (.c (.d (.bool false))))⟩,
    ⟨none, .mov (.l 0)⟩,
    ⟨some (0, true), .mov (.r 3)⟩,
    ⟨some (1, true), .len (.l 0)⟩,
    ⟨some (2, true), .bin .eql (.l 0) (.v (.c (.d (.int .i64 0))))⟩,
    ⟨none, .pick (.l 3) (.l 0) (.v (.c (.d (.bool false))))⟩,
    ⟨none, .mov (.l 0)⟩,
    ⟨some (0, true), .fa 0 (.r 4)⟩,
    ⟨some (1, true), .ld false 1 (.l 0)⟩,
    ⟨some (2, true), .len (.l 0)⟩,
    ⟨some (3, true), .bin .eql (.l 0) (.v (.c (.d (.int .i64 0))))⟩,
    ⟨none, .pick (.l 4) (.l 0) (.v (.c (.d (.bool false))))⟩,
    ⟨none, .mov (.l 0)⟩,
    ⟨some (0, true), .mov (.r 6)⟩,
    ⟨some (1, true), .bin .eql (.l 0) (.v (.c (.d (.str []))))⟩,
    ⟨none, .pick (.l 2) (.l 0) (.v (.c (.d (.bool false))))⟩,
    ⟨none, .mov (.l 0)⟩,
    ⟨some (0, true), .mov (.r 8)⟩,
    ⟨some (1, true), .bin .eql (.l 0) (.v (.c (.d (.int .i64 0))))⟩,
    ⟨none, .pick (.l 2) (.l 0) (.v (.c (.d (.bool false))))⟩,
    ⟨none, .mov (.l 0)⟩,
    ⟨some (0, true), .mov (.r 9)⟩,
    ⟨some (1, true), .bin .eql (.l 0) (.v (.c (.d (.int .i64 0))))⟩,
    ⟨none, .pick (.l 2) (.l 0) (.v (.c (.d (.bool false))))⟩,
    ⟨none, .mov (.l 0)⟩,
    ⟨some (0, true), .vc 13 []⟩,
    ⟨none, .pick (.l 1) (.l 0) (.v (.c (.d (.bool false))))⟩,
    ⟨none, .mov (.l 0)⟩] [(2, 0)] []) (
  .ret)) (
  .skip))) (
  .seq (.reg false [⟨none, .mov (.r 5)⟩,
    ⟨none, .bin .eql (.l 0) (.v (.c (.d (.int .i64 0))))⟩,
    ⟨none, .mov (.l 0)⟩,
    ⟨some (0, true), .mov (.r 7)⟩,
    ⟨some (1, true), .bin .eql (.l 0) (.v (.c (.d (.int .i64 0))))⟩,
    ⟨none, .pick (.l 2) (.l 0) (.v (.c (.d (.bool false))))⟩,
    ⟨none, .mov (.l 0)⟩,
    ⟨some (0, true), .mov (.r 10)⟩,
    ⟨some (1, true), .bin .eql (.l 0) (.v (.c (.d (.int .i64 0))))⟩,
    ⟨none, .pick (.l 2) (.l 0) (.v (.c (.d (.bool false))))⟩,
    ⟨none, .mov (.l 0)⟩,
    ⟨some (0, true), .mov (.r 3)⟩,
    ⟨some (1, true), .mov (.r 0)⟩,
    ⟨some (2, true), .mov (.r 1)⟩,
    ⟨some (3, true), .vc 15 [(.l 1), (.l 0)]⟩,
    ⟨some (4, true), .vc 14 [(.l 3), (.l 0)]⟩,
    ⟨some (5, true), .bin .eql (.l 0) (.v (.c (.d (.int .i64 1))))⟩,
    ⟨none, .pick (.l 6) (.l 0) (.v (.c (.d (.bool false))))⟩,
    ⟨none, .mov (.l 0)⟩,
    ⟨some (0, true), .ld true 4 (.r 4)⟩,
    ⟨some (1, true), .vc 16 [(.l 0)]⟩,
    ⟨some (2, true), .bin .eql (.l 0) (.v (.c (.d (.int .i64 1))))⟩,
    ⟨none, .pick (.l 3) (.l 0) (.v (.c (.d (.bool false))))⟩,
    ⟨none, .mov (.l 0)⟩,
    ⟨some (0, true), .mov (.r 3)⟩,
    ⟨some (1, true), .cap (.l 0)⟩,
    ⟨some (2, true), .mov (.r 3)⟩,
    ⟨some (3, true), .len (.l 0)⟩,
    ⟨some (4, true), .bin .eql (.l 2) (.l 0)⟩,
    ⟨none, .pick (.l 5) (.l 0) (.v (.c (.d (.bool false))))⟩,
    ⟨none, .mov (.l 0)⟩,
    ⟨some (0, true), .vc 13 []⟩,
    ⟨none, .pick (.l 1) (.l 0) (.v (.c (.d (.bool false))))⟩,
    ⟨none, .mov (.l 0)⟩] [(2, 0)] []) (
  .ret))))))⟩
theorem fn3_is : fn3 = fn3' := rfl

def fn4' : Fn := ⟨1, 13, [0, 1, 2, 3, 4, 5, 6, 7, 8, 9, 10, 60, 116], [.r 2],
  .seq (.reg false [⟨none, .box (.r 0)⟩,
    ⟨none, .mov (.v (.c (.d (.bool false))))⟩] [(1, 1), (2, 0)] []) (
  .seq (.reg false [⟨none, .ixp 4 1 (.r 1) (.v (.c (.d (.int .i64 0))))⟩,
    ⟨none, .ld false 1 (.l 0)⟩,
    ⟨none, .ixp 4 1 (.r 1) (.v (.c (.d (.int .i64 1))))⟩,
    ⟨none, .ld false 1 (.l 0)⟩,
    ⟨none, .ixp 4 1 (.r 1) (.v (.c (.d (.int .i64 2))))⟩,
    ⟨none, .ld false 1 (.l 0)⟩,
    ⟨none, .hc (.v (.c (.d (.fn 17 [] [])))) [(.l 4), (.l 2), (.l 0)]⟩,
    ⟨none, .mov (.l 0)⟩,
    ⟨none, .ext (.l 0) 0⟩,
    ⟨none, .ext (.l 1) 1⟩,
    ⟨none, .ext (.l 2) 2⟩,
    ⟨none, .pre⟩,
    ⟨none, .mov (.l 3)⟩,
    ⟨none, .ini 4 (.l 3)⟩,
    ⟨none, .mov (.l 3)⟩] [(3, 2), (4, 1), (5, 0)] []) (
  .seq (.reg false [⟨none, .ixp 4 1 (.r 1) (.v (.c (.d (.int .i64 0))))⟩,
    ⟨none, .ld false 1 (.l 0)⟩,
    ⟨none, .ixp 4 1 (.r 1) (.v (.c (.d (.int .i64 1))))⟩,
    ⟨none, .ld false 1 (.l 0)⟩,
    ⟨none, .ixp 4 1 (.r 1) (.v (.c (.d (.int .i64 2))))⟩,
    ⟨none, .ld false 1 (.l 0)⟩,
    ⟨none, .vc 18 [(.l 4), (.l 2), (.l 0)]⟩,
    ⟨none, .mov (.l 0)⟩,
    ⟨none, .ext (.l 0) 0⟩,
    ⟨none, .ext (.l 1) 1⟩,
    ⟨none, .ext (.l 2) 2⟩,
    ⟨none, .mov (.l 2)⟩,
    ⟨none, .mov (.l 2)⟩,
    ⟨none, .mov (.l 2)⟩] [(6, 2), (7, 1), (8, 0)] []) (
  .seq (.reg false [⟨none, .ixp 4 1 (.r 1) (.v (.c (.d (.int .i64 0))))⟩,
    ⟨none, .ld false 1 (.l 0)⟩,
    ⟨none, .ixp 4 1 (.r 1) (.v (.c (.d (.int .i64 1))))⟩,
    ⟨none, .ld false 1 (.l 0)⟩,
    ⟨none, .ixp 4 1 (.r 1) (.v (.c (.d (.int .i64 2))))⟩,
    ⟨none, .ld false 1 (.l 0)⟩,
    ⟨none, .ixp 4 1 (.r 1) (.v (.c (.d (.int .i64 3))))⟩,
    ⟨none, .ld false 1 (.l 0)⟩,
    ⟨none, .vc 19 [(.l 6), (.l 4), (.l 2), (.l 0)]⟩,
    ⟨none, .mov (.l 0)⟩,
    ⟨none, .ext (.l 0) 0⟩,
    ⟨none, .ext (.l 1) 1⟩,
    ⟨none, .mov (.l 1)⟩,
    ⟨none, .mov (.l 1)⟩] [(9, 1), (10, 0)] []) (
  .seq (.seq (.reg false [⟨none, .ixp 4 1 (.r 1) (.v (.c (.d (.int .i64 0))))⟩,
    ⟨none, .ld false 1 (.l 0)⟩,
    ⟨none, .vc 12 [(.l 0), (.v (.c (.d (.int .i64 1)))), (.v (.c (.d (.int .i64 64))))]⟩,
    ⟨none, .un .not (.l 0)⟩,
    ⟨none, .mov (.l 0)⟩,
    ⟨some (0, false), .ixp 4 1 (.r 1) (.v (.c (.d (.int .i64 1))))⟩,
    ⟨some (1, false), .ld false 1 (.l 0)⟩,
    ⟨some (2, false), .vc 12 [(.l 0), (.v (.c (.d (.int .i64 0)))), (.v (.c (.d (.int .i64 63))))]⟩,
    ⟨some (3, false), .un .not (.l 0)⟩,
    ⟨none, .pick (.l 4) (.v (.c (.d (.bool true)))) (.l 0)⟩,
    ⟨none, .mov (.l 0)⟩,
    ⟨some (0, false), .ixp 4 1 (.r 1) (.v (.c (.d (.int .i64 2))))⟩,
    ⟨some (1, false), .ld false 1 (.l 0)⟩,
    ⟨some (2, false), .vc 12 [(.l 0), (.v (.c (.d (.int .i64 0)))), (.v (.c (.d (.int .i64 64))))]⟩,
    ⟨some (3, false), .un .not (.l 0)⟩,
    ⟨none, .pick (.l 4) (.v (.c (.d (.bool true)))) (.l 0)⟩] [(11, 0)] []) (
  .cond (.r 11) (
  .seq (.reg false [⟨none, .mov (.r 5)⟩,
    ⟨none, .bin .eql (.l 0) (.v (.c (.d (.int .i64 1))))⟩,
    ⟨none, .mov (.l 0)⟩,
    ⟨some (0, true), .mov (.r 8)⟩,
    ⟨some (1, true), .bin .eql (.l 0) (.v (.c (.d (.int .i64 1))))⟩,
    ⟨none, .pick (.l 2) (.l 0) (.v (.c (.d (.bool false))))⟩,
    ⟨none, .mov (.l 0)⟩,
    ⟨some (0, true), .mov (.r 10)⟩,
    ⟨some (1, true), .bin .eql (.l 0) (.v (.c (.d (.int .i64 1))))⟩,
    ⟨none, .pick (.l 2) (.l 0) (.v (.c (.d (.bool false))))⟩,
    ⟨none, .mov (.l 0)⟩,
    ⟨some (0, true), .mov (.r 3)⟩,
    ⟨some (1, true), .len (.l 0)⟩,
    ⟨some (2, true), .bin .eql (.l 0) (.v (.c (.d (.int .i64 0))))⟩,
    ⟨none, .pick (.l 3) (.l 0) (.v (.c (.d (.bool false))))⟩,
    ⟨none, .mov (.l 0)⟩,
    ⟨some (0, true), .fa 0 (.r 4)⟩,
    ⟨some (1, true), .ld false 1 (.l 0)⟩,
    ⟨some (2, true), .len (.l 0)⟩,
    ⟨some (3, true), .bin .eql (.l 0) (.v (.c (.d (.int .i64 0))))⟩,
    ⟨none, .pick (.l 4) (.l 0) (.v (.c (.d (.bool false))))⟩,
    ⟨none, .mov (.l 0)⟩,
    ⟨some (0, true), .mov (.r 6)⟩,
    ⟨some (1, true), .bin .eql (.l 0) (.v (.c (.d (.int .i64 0))))⟩,
    ⟨none, .pick (.l 2) (.l 0) (.v (.c (.d (.bool false))))⟩,
    ⟨none, .mov (.l 0)⟩,
    ⟨some (0, true), .mov (.r 7)⟩,
    ⟨some (1, true), .bin .eql (.l 0) (.v (.c (.d (.int .i64 0))))⟩,
    ⟨none, .pick (.l 2) (.l 0) (.v (.c (.d (.bool false))))⟩,
    ⟨none, .mov (.l 0)⟩,
    ⟨some (0, true), .mov (.r 9)⟩,
    ⟨some (1, true), .bin .eql (.l 0) (.v (.c (.d (.int .i64 0))))⟩,
    ⟨none, .pick (.l 2) (.l 0) (.v (.c (.d (.bool false))))⟩,
    ⟨none, .mov (.l 0)⟩,
    ⟨some (0, true), .vc 13 []⟩,
    ⟨none, .pick (.l 1) (.l 0) (.v (.c (.d (.bool false))))⟩,
    ⟨none, .mov (.l 0)⟩] [(2, 0)] []) (
  .ret)) (
  .skip))) (
  .seq (.seq (.reg false [⟨none, .mov (.r 10)⟩,
    ⟨none, .bin .eql (.l 0) (.v (.c (.d (.int .i64 0))))⟩,
    ⟨none, .ixp 4 1 (.r 1) (.v (.c (.d (.int .i64 3))))⟩,
    ⟨none, .ld false 1 (.l 0)⟩,
    ⟨none, .ixp 4 1 (.r 1) (.v (.c (.d (.int .i64 0))))⟩,
    ⟨none, .ld false 1 (.l 0)⟩,
    ⟨none, .vc 12 [(.l 2), (.v (.c (.d (.int .i64 0)))), (.l 0)]⟩,
    ⟨none, .beq true (.l 5) (.l 0)⟩,
    ⟨none, .mov (.l 0)⟩,
    ⟨some (0, false), .mov (.r 10)⟩,
    ⟨some (1, false), .bin .neq (.l 0) (.v (.c (.d (.int .i64 0))))⟩,
    ⟨some (2, false), .mov (.l 0)⟩,
    ⟨some (0, true), .mov (.r 10)⟩,
    ⟨some (1, true), .bin .neq (.l 0) (.v (.c (.d (.int .i64 1))))⟩,
    ⟨some (2, true), .mov (.l 0)⟩,
    ⟨some (0, false), .mov (.r 9)⟩,
    ⟨some (1, false), .bin .neq (.l 0) (.v (.c (.d (.int .i64 0))))⟩,
    ⟨some (5, true), .pick (.l 2) (.v (.c (.d (.bool true)))) (.l 0)⟩,
    ⟨some (9, false), .pick (.l 6) (.l 0) (.v (.c (.d (.bool false))))⟩,
    ⟨none, .pick (.l 10) (.v (.c (.d (.bool true)))) (.l 0)⟩] [(12, 0)] []) (
  .cond (.r 12) (
  .seq (.reg false [⟨none, .mov (.v (.c (.d (.bool false))))⟩] [(2, 0)] []) (
  .ret)) (
  .skip))) (
  .seq (.reg false [⟨none, .mov (.r 5)⟩,
    ⟨none, .bin .eql (.l 0) (.v (.c (.d (.int .i64 0))))⟩,
    ⟨none, .mov (.l 0)⟩,
    ⟨some (0, true), .mov (.r 8)⟩,
    ⟨some (1, true), .bin .eql (.l 0) (.v (.c (.d (.int .i64 0))))⟩,
    ⟨none, .pick (.l 2) (.l 0) (.v (.c (.d (.bool false))))⟩,
    ⟨none, .mov (.l 0)⟩,
    ⟨some (0, true), .mov (.r 3)⟩,
    ⟨some (1, true), .ixp 4 1 (.r 1) (.v (.c (.d (.int .i64 0))))⟩,
    ⟨some (2, true), .ld false 1 (.l 0)⟩,
    ⟨some (3, true), .ixp 4 1 (.r 1) (.v (.c (.d (.int .i64 1))))⟩,
    ⟨some (4, true), .ld false 1 (.l 0)⟩,
    ⟨some (5, true), .ixp 4 1 (.r 1) (.v (.c (.d (.int .i64 2))))⟩,
    ⟨some (6, true), .ld false 1 (.l 0)⟩,
    ⟨some (7, true), .vc 20 [(.l 4), (.l 2), (.l 0)]⟩,
    ⟨some (8, true), .vc 14 [(.l 7), (.l 0)]⟩,
    ⟨some (9, true), .bin .eql (.l 0) (.v (.c (.d (.int .i64 1))))⟩,
    ⟨none, .pick (.l 10) (.l 0) (.v (.c (.d (.bool false))))⟩,
    ⟨none, .mov (.l 0)⟩,
    ⟨some (0, true), .ld true 4 (.r 4)⟩,
    ⟨some (1, true), .vc 16 [(.l 0)]⟩,
    ⟨some (2, true), .bin .eql (.l 0) (.v (.c (.d (.int .i64 1))))⟩,
    ⟨none, .pick (.l 3) (.l 0) (.v (.c (.d (.bool false))))⟩,
    ⟨none, .mov (.l 0)⟩,
    ⟨some (0, true), .mov (.r 3)⟩,
    ⟨some (1, true), .cap (.l 0)⟩,
    ⟨some (2, true), .mov (.r 3)⟩,
    ⟨some (3, true), .len (.l 0)⟩,
    ⟨some (4, true), .bin .eql (.l 2) (.l 0)⟩,
    ⟨none, .pick (.l 5) (.l 0) (.v (.c (.d (.bool false))))⟩,
    ⟨none, .mov (.l 0)⟩,
    ⟨some (0, true), .vc 13 []⟩,
    ⟨none, .pick (.l 1) (.l 0) (.v (.c (.d (.bool false))))⟩,
    ⟨none, .mov (.l 0)⟩] [(2, 0)] []) (
  .ret)))))))⟩
theorem fn4_is : fn4 = fn4' := rfl

def fn5L0 : I := .seq (.seq (.reg false [⟨none, .mov (.r 13)⟩,
    ⟨none, .mov (.r 7)⟩,
    ⟨none, .len (.l 0)⟩,
    ⟨none, .bin .lss (.l 2) (.l 0)⟩] [(16, 0)] []) (
  .cond (.r 16) (
  .skip) (
  .exit 0))) (
  .seq (.block 1 (
  .seq (.reg false [⟨none, .mov (.r 4)⟩,
    ⟨none, .mov (.r 5)⟩,
    ⟨none, .mov (.r 6)⟩,
    ⟨none, .mov (.r 13)⟩,
    ⟨none, .vc 19 [(.l 3), (.l 2), (.l 1), (.l 0)]⟩,
    ⟨none, .mov (.l 0)⟩,
    ⟨none, .ext (.l 0) 0⟩,
    ⟨none, .ext (.l 1) 1⟩,
    ⟨none, .mov (.l 1)⟩,
    ⟨none, .mov (.l 1)⟩] [(14, 1), (15, 0)] []) (
  .seq (.seq (.reg false [⟨none, .mov (.r 15)⟩,
    ⟨none, .bin .neq (.l 0) (.v (.c (.d (.int .i64 0))))⟩,
    ⟨none, .mov (.l 0)⟩,
    ⟨some (0, false), .mov (.r 14)⟩,
    ⟨some (1, false), .mov (.r 7)⟩,
    ⟨some (2, false), .mov (.r 13)⟩,
    ⟨some (3, false), .ixa 1 (.l 1) (.l 0)⟩,
    ⟨some (4, false), .ld false 1 (.l 0)⟩,
    ⟨some (5, false), .bin .neq (.l 4) (.l 0)⟩,
    ⟨none, .pick (.l 6) (.v (.c (.d (.bool true)))) (.l 0)⟩,
    ⟨none, .mov (.l 0)⟩,
    ⟨some (0, false), .mov (.r 14)⟩,
    ⟨some (1, false), .mov (.r 13)⟩,
    ⟨some (2, false), .mov (.r 5)⟩,
    ⟨some (3, false), .bin .add (.l 0) (.v (.c (.d (.int .i64 1))))⟩,
    ⟨some (4, false), .mov (.r 6)⟩,
    ⟨some (5, false), .bin .add (.l 1) (.l 0)⟩,
    ⟨some (6, false), .bin .mul (.l 4) (.l 0)⟩,
    ⟨some (7, false), .bin .add (.l 0) (.v (.c (.d (.int .i64 1))))⟩,
    ⟨some (8, false), .bin .gtr (.l 7) (.l 0)⟩,
    ⟨none, .pick (.l 9) (.v (.c (.d (.bool true)))) (.l 0)⟩] [(17, 0)] []) (
  .cond (.r 17) (
  .seq (.reg false [⟨none, .mov (.v (.c (.d (.bool false))))⟩] [(3, 0)] []) (
  .ret)) (
  .skip))) (
  .reg false [⟨none, .mov (.r 12)⟩,
    ⟨none, .mov (.r 7)⟩,
    ⟨none, .mov (.r 13)⟩,
    ⟨none, .ixa 1 (.l 1) (.l 0)⟩,
    ⟨none, .ld false 1 (.l 0)⟩,
    ⟨none, .bin .add (.l 4) (.l 0)⟩,
    ⟨none, .mov (.l 0)⟩] [(12, 0)] [])))) (
  .reg false [⟨none, .mov (.r 13)⟩,
    ⟨none, .bin .add (.l 0) (.v (.c (.d (.int .i64 1))))⟩,
    ⟨none, .mov (.l 0)⟩] [(13, 0)] []))

def fn5' : Fn := ⟨3, 18, [0, 1, 2, 6, 7, 8, 9, 10, 11, 12, 13, 14, 15, 16, 17, 18, 49, 80], [.r 3],
  .seq (.reg false [⟨none, .mov (.v (.c (.d (.bool false))))⟩] [(3, 0)] []) (
  .seq (.reg false [⟨none, .mov (.r 0)⟩,
    ⟨none, .bin .rem (.l 0) (.v (.c (.d (.int .u8 5))))⟩,
    ⟨none, .cvi .i64 (.l 0)⟩,
    ⟨none, .bin .add (.v (.c (.d (.int .i64 1)))) (.l 0)⟩,
    ⟨none, .mov (.r 1)⟩,
    ⟨none, .bin .rem (.l 0) (.v (.c (.d (.int .u8 4))))⟩,
    ⟨none, .cvi .i64 (.l 0)⟩,
    ⟨none, .mov (.r 2)⟩,
    ⟨none, .bin .rem (.l 0) (.v (.c (.d (.int .u8 4))))⟩,
    ⟨none, .cvi .i64 (.l 0)⟩,
    ⟨none, .mov (.l 6)⟩,
    ⟨none, .mov (.l 4)⟩,
    ⟨none, .mov (.l 2)⟩] [(4, 2), (5, 1), (6, 0)] []) (
  .seq (.reg false [⟨none, .mov (.r 4)⟩,
    ⟨none, .mov (.r 5)⟩,
    ⟨none, .mov (.r 6)⟩,
    ⟨none, .vc 20 [(.l 2), (.l 1), (.l 0)]⟩,
    ⟨none, .vc 22 []⟩,
    ⟨none, .vc 21 [(.l 1), (.l 0)]⟩,
    ⟨none, .mov (.l 0)⟩,
    ⟨none, .ext (.l 0) 0⟩,
    ⟨none, .ext (.l 1) 1⟩,
    ⟨none, .mov (.l 1)⟩,
    ⟨none, .mov (.l 1)⟩] [(7, 1), (8, 0)] []) (
  .seq (.reg false [⟨none, .mov (.r 4)⟩,
    ⟨none, .mov (.r 5)⟩,
    ⟨none, .mov (.r 6)⟩,
    ⟨none, .vc 18 [(.l 2), (.l 1), (.l 0)]⟩,
    ⟨none, .mov (.l 0)⟩,
    ⟨none, .ext (.l 0) 0⟩,
    ⟨none, .ext (.l 1) 1⟩,
    ⟨none, .ext (.l 2) 2⟩,
    ⟨none, .mov (.l 2)⟩,
    ⟨none, .mov (.l 2)⟩,
    ⟨none, .mov (.l 2)⟩] [(9, 2), (10, 1), (11, 0)] []) (
  .seq (.reg false [⟨none, .mov (.v (.c (.d (.int .i64 0))))⟩] [(12, 0)] []) (
  .seq (.seq (.reg false [⟨none, .mov (.v (.c (.d (.int .i64 0))))⟩] [(13, 0)] []) (
  .block 0 (
  .loop (some [4, 5, 6, 7, 8, 9, 10, 11, 12, 13]) fn5L0))) (
  .seq (.reg false [⟨none, .mov (.r 11)⟩,
    ⟨none, .bin .eql (.l 0) (.v (.c (.d (.int .i64 0))))⟩,
    ⟨none, .mov (.l 0)⟩,
    ⟨some (0, true), .mov (.r 7)⟩,
    ⟨some (1, true), .len (.l 0)⟩,
    ⟨some (2, true), .mov (.r 4)⟩,
    ⟨some (3, true), .bin .add (.l 0) (.v (.c (.d (.int .i64 1))))⟩,
    ⟨some (4, true), .bin .eql (.l 2) (.l 0)⟩,
    ⟨none, .pick (.l 5) (.l 0) (.v (.c (.d (.bool false))))⟩,
    ⟨none, .mov (.l 0)⟩,
    ⟨some (0, true), .mov (.r 9)⟩,
    ⟨some (1, true), .mov (.r 12)⟩,
    ⟨some (2, true), .bin .eql (.l 1) (.l 0)⟩,
    ⟨none, .pick (.l 3) (.l 0) (.v (.c (.d (.bool false))))⟩,
    ⟨none, .mov (.l 0)⟩,
    ⟨some (0, true), .mov (.r 10)⟩,
    ⟨some (1, true), .mov (.r 8)⟩,
    ⟨some (2, true), .bin .eql (.l 1) (.l 0)⟩,
    ⟨none, .pick (.l 3) (.l 0) (.v (.c (.d (.bool false))))⟩,
    ⟨none, .mov (.l 0)⟩,
    ⟨some (0, true), .vc 13 []⟩,
    ⟨none, .pick (.l 1) (.l 0) (.v (.c (.d (.bool false))))⟩,
    ⟨none, .mov (.l 0)⟩] [(3, 0)] []) (
  .ret)))))))⟩
theorem fn5_is : fn5 = fn5' := rfl

def fn7' : Fn := ⟨0, 19, [0, 1, 2, 3, 4, 5, 6, 7, 8, 10, 11, 13, 14, 15, 16, 17, 19, 20, 95], [.r 0],
  .seq (.reg false [⟨none, .mov (.v (.c (.d (.bool false))))⟩] [(0, 0)] []) (
  .seq (.reg false [⟨none, .vc 10 [(.v (.c (.d (.int .i64 1)))), (.v (.c (.d (.int .i64 8))))]⟩,
    ⟨none, .mov (.l 0)⟩,
    ⟨none, .ext (.l 0) 0⟩,
    ⟨none, .ext (.l 1) 1⟩,
    ⟨none, .mov (.l 1)⟩,
    ⟨none, .mov (.l 1)⟩] [(1, 1), (2, 0)] []) (
  .seq (.reg false [⟨none, .vc 10 [(.v (.c (.d (.int .i64 20)))), (.v (.c (.d (.int .i64 8))))]⟩,
    ⟨none, .mov (.l 0)⟩,
    ⟨none, .ext (.l 0) 0⟩,
    ⟨none, .ext (.l 1) 1⟩,
    ⟨none, .mov (.l 1)⟩,
    ⟨none, .mov (.l 1)⟩] [(3, 1), (4, 0)] []) (
  .seq (.reg false [⟨none, .vc 11 [(.v (.c (.d (.int .i64 64)))), (.v (.c (.d (.int .i64 8))))]⟩,
    ⟨none, .mov (.l 0)⟩,
    ⟨none, .ext (.l 0) 0⟩,
    ⟨none, .ext (.l 1) 1⟩,
    ⟨none, .ext (.l 2) 2⟩,
    ⟨none, .mov (.l 2)⟩,
    ⟨none, .mov (.l 2)⟩,
    ⟨none, .mov (.l 2)⟩] [(5, 2), (6, 1), (7, 0)] []) (
  .seq (.reg false [⟨none, .vc 9 [(.v (.c (.d (.int .i64 64)))), (.v (.c (.d (.int .i64 8))))]⟩,
    ⟨none, .mov (.l 0)⟩,
    ⟨none, .ext (.l 0) 0⟩,
    ⟨none, .ext (.l 1) 1⟩,
    ⟨none, .ext (.l 2) 2⟩,
    ⟨none, .pre⟩,
    ⟨none, .mov (.l 3)⟩,
    ⟨none, .ini 4 (.l 3)⟩,
    ⟨none, .mov (.l 3)⟩] [(8, 2), (9, 0)] []) (
  .seq (.reg false [⟨none, .vc 17 [(.v (.c (.d (.int .i64 64)))), (.v (.c (.d (.int .i64 63)))), (.v (.c (.d (.int .i64 64))))]⟩,
    ⟨none, .mov (.l 0)⟩,
    ⟨none, .ext (.l 0) 0⟩,
    ⟨none, .ext (.l 1) 1⟩,
    ⟨none, .ext (.l 2) 2⟩,
    ⟨none, .pre⟩,
    ⟨none, .mov (.l 3)⟩,
    ⟨none, .ini 4 (.l 3)⟩,
    ⟨none, .mov (.l 3)⟩] [(10, 2), (11, 0)] []) (
  .seq (.reg false [⟨none, .vc 18 [(.v (.c (.d (.int .i64 64)))), (.v (.c (.d (.int .i64 63)))), (.v (.c (.d (.int .i64 64))))]⟩,
    ⟨none, .mov (.l 0)⟩,
    ⟨none, .ext (.l 0) 0⟩,
    ⟨none, .ext (.l 1) 1⟩,
    ⟨none, .ext (.l 2) 2⟩,
    ⟨none, .mov (.l 2)⟩,
    ⟨none, .mov (.l 2)⟩,
    ⟨none, .mov (.l 2)⟩] [(12, 2), (13, 1), (14, 0)] []) (
  .seq (.reg false [⟨none, .vc 17 [(.v (.c (.d (.int .i64 1)))), (.v (.c (.d (.int .i64 0)))), (.v (.c (.d (.int .i64 0))))]⟩,
    ⟨none, .mov (.l 0)⟩,
    ⟨none, .ext (.l 0) 0⟩,
    ⟨none, .ext (.l 1) 1⟩,
    ⟨none, .ext (.l 2) 2⟩,
    ⟨none, .pre⟩,
    ⟨none, .mov (.l 3)⟩,
    ⟨none, .ini 4 (.l 3)⟩,
    ⟨none, .mov (.l 3)⟩] [(15, 2), (16, 0)] []) (
  .seq (.seq (.reg false [⟨none, .mov (.r 2)⟩,
    ⟨none, .bin .neq (.l 0) (.v (.c (.d (.int .i64 0))))⟩,
    ⟨none, .mov (.l 0)⟩,
    ⟨some (0, false), .mov (.r 4)⟩,
    ⟨some (1, false), .bin .neq (.l 0) (.v (.c (.d (.int .i64 0))))⟩,
    ⟨none, .pick (.l 2) (.v (.c (.d (.bool true)))) (.l 0)⟩,
    ⟨none, .mov (.l 0)⟩,
    ⟨some (0, false), .mov (.r 7)⟩,
    ⟨some (1, false), .bin .neq (.l 0) (.v (.c (.d (.int .i64 0))))⟩,
    ⟨none, .pick (.l 2) (.v (.c (.d (.bool true)))) (.l 0)⟩,
    ⟨none, .mov (.l 0)⟩,
    ⟨some (0, false), .mov (.r 9)⟩,
    ⟨some (1, false), .bin .neq (.l 0) (.v (.c (.d (.int .i64 0))))⟩,
    ⟨none, .pick (.l 2) (.v (.c (.d (.bool true)))) (.l 0)⟩,
    ⟨none, .mov (.l 0)⟩,
    ⟨some (0, false), .mov (.r 11)⟩,
    ⟨some (1, false), .bin .neq (.l 0) (.v (.c (.d (.int .i64 0))))⟩,
    ⟨none, .pick (.l 2) (.v (.c (.d (.bool true)))) (.l 0)⟩,
    ⟨none, .mov (.l 0)⟩,
    ⟨some (0, false), .mov (.r 14)⟩,
    ⟨some (1, false), .bin .neq (.l 0) (.v (.c (.d (.int .i64 0))))⟩,
    ⟨none, .pick (.l 2) (.v (.c (.d (.bool true)))) (.l 0)⟩,
    ⟨none, .mov (.l 0)⟩,
    ⟨some (0, false), .mov (.r 16)⟩,
    ⟨some (1, false), .bin .neq (.l 0) (.v (.c (.d (.int .i64 0))))⟩,
    ⟨none, .pick (.l 2) (.v (.c (.d (.bool true)))) (.l 0)⟩,
    ⟨none, .mov (.l 0)⟩,
    ⟨some (0, false), .mov (.r 1)⟩,
    ⟨some (1, false), .bin .neq (.l 0) (.v (.c (.d (.str [57]))))⟩,
    ⟨none, .pick (.l 2) (.v (.c (.d (.bool true)))) (.l 0)⟩,
    ⟨none, .mov (.l 0)⟩,
    ⟨some (0, false), .mov (.r 3)⟩,
    ⟨some (1, false), .bin .neq (.l 0) (.v (.c (.d (.str [49, 51, 49, 55, 54, 50, 52, 53, 55, 54, 54, 57, 51, 53, 51, 57, 52, 48, 49]))))⟩,
    ⟨none, .pick (.l 2) (.v (.c (.d (.bool true)))) (.l 0)⟩,
    ⟨none, .mov (.l 0)⟩,
    ⟨some (0, false), .mov (.r 5)⟩,
    ⟨some (1, false), .bin .neq (.l 0) (.v (.c (.d (.int .i64 513))))⟩,
    ⟨none, .pick (.l 2) (.v (.c (.d (.bool true)))) (.l 0)⟩,
    ⟨none, .mov (.l 0)⟩,
    ⟨some (0, false), .mov (.r 6)⟩,
    ⟨some (1, false), .bin .neq (.l 0) (.v (.c (.d (.int .i64 4040))))⟩,
    ⟨none, .pick (.l 2) (.v (.c (.d (.bool true)))) (.l 0)⟩] [(18, 0)] []) (
  .cond (.r 18) (
  .seq (.reg false [⟨none, .mov (.v (.c (.d (.bool false))))⟩] [(0, 0)] []) (
  .ret)) (
  .skip))) (
  .seq (.reg false [⟨none, .mov (.v (.c (.d (.int .i64 264161))))⟩] [(17, 0)] []) (
  .seq (.reg false [⟨none, .mov (.r 8)⟩,
    ⟨none, .len (.l 0)⟩,
    ⟨none, .bin .eql (.l 0) (.v (.c (.d (.int .i64 64))))⟩,
    ⟨none, .mov (.l 0)⟩,
    ⟨some (0, true), .mov (.r 8)⟩,
    ⟨some (1, true), .ixa 8 (.l 0) (.v (.c (.d (.int .i64 63))))⟩,
    ⟨some (2, true), .fa 4 (.l 0)⟩,
    ⟨some (3, true), .ld false 1 (.l 0)⟩,
    ⟨some (4, true), .len (.l 0)⟩,
    ⟨some (5, true), .bin .eql (.l 0) (.v (.c (.d (.int .i64 64))))⟩,
    ⟨none, .pick (.l 6) (.l 0) (.v (.c (.d (.bool false))))⟩,
    ⟨none, .mov (.l 0)⟩,
    ⟨some (0, true), .mov (.r 10)⟩,
    ⟨some (1, true), .len (.l 0)⟩,
    ⟨some (2, true), .bin .eql (.l 0) (.v (.c (.d (.int .i64 64))))⟩,
    ⟨none, .pick (.l 3) (.l 0) (.v (.c (.d (.bool false))))⟩,
    ⟨none, .mov (.l 0)⟩,
    ⟨some (0, true), .mov (.r 10)⟩,
    ⟨some (1, true), .ixa 8 (.l 0) (.v (.c (.d (.int .i64 63))))⟩,
    ⟨some (2, true), .fa 2 (.l 0)⟩,
    ⟨some (3, true), .ld false 1 (.l 0)⟩,
    ⟨some (4, true), .len (.l 0)⟩,
    ⟨some (5, true), .bin .eql (.l 0) (.v (.c (.d (.int .i64 64))))⟩,
    ⟨none, .pick (.l 6) (.l 0) (.v (.c (.d (.bool false))))⟩,
    ⟨none, .mov (.l 0)⟩,
    ⟨some (0, true), .mov (.r 10)⟩,
    ⟨some (1, true), .ixa 8 (.l 0) (.v (.c (.d (.int .i64 63))))⟩,
    ⟨some (2, true), .fa 4 (.l 0)⟩,
    ⟨some (3, true), .ld false 1 (.l 0)⟩,
    ⟨some (4, true), .len (.l 0)⟩,
    ⟨some (5, true), .bin .eql (.l 0) (.v (.c (.d (.int .i64 64))))⟩,
    ⟨none, .pick (.l 6) (.l 0) (.v (.c (.d (.bool false))))⟩,
    ⟨none, .mov (.l 0)⟩,
    ⟨some (0, true), .mov (.r 12)⟩,
    ⟨some (1, true), .mov (.r 17)⟩,
    ⟨some (2, true), .bin .eql (.l 1) (.l 0)⟩,
    ⟨none, .pick (.l 3) (.l 0) (.v (.c (.d (.bool false))))⟩,
    ⟨none, .mov (.l 0)⟩,
    ⟨some (0, true), .mov (.r 13)⟩,
    ⟨some (1, true), .mov (.r 17)⟩,
    ⟨some (2, true), .bin .sub (.l 0) (.v (.c (.d (.int .i64 1))))⟩,
    ⟨some (3, true), .bin .eql (.l 2) (.l 0)⟩,
    ⟨none, .pick (.l 4) (.l 0) (.v (.c (.d (.bool false))))⟩,
    ⟨none, .mov (.l 0)⟩,
    ⟨some (0, true), .mov (.r 15)⟩,
    ⟨some (1, true), .len (.l 0)⟩,
    ⟨some (2, true), .bin .eql (.l 0) (.v (.c (.d (.int .i64 1))))⟩,
    ⟨none, .pick (.l 3) (.l 0) (.v (.c (.d (.bool false))))⟩,
    ⟨none, .mov (.l 0)⟩,
    ⟨some (0, true), .mov (.r 15)⟩,
    ⟨some (1, true), .ixa 8 (.l 0) (.v (.c (.d (.int .i64 0))))⟩,
    ⟨some (2, true), .fa 3 (.l 0)⟩,
    ⟨some (3, true), .ld false 1 (.l 0)⟩,
    ⟨some (4, true), .un .not (.l 0)⟩,
    ⟨none, .pick (.l 5) (.l 0) (.v (.c (.d (.bool false))))⟩,
    ⟨none, .mov (.l 0)⟩,
    ⟨some (0, true), .mov (.r 15)⟩,
    ⟨some (1, true), .ixa 8 (.l 0) (.v (.c (.d (.int .i64 0))))⟩,
    ⟨some (2, true), .fa 2 (.l 0)⟩,
    ⟨some (3, true), .ld false 1 (.l 0)⟩,
    ⟨some (4, true), .len (.l 0)⟩,
    ⟨some (5, true), .bin .eql (.l 0) (.v (.c (.d (.int .i64 1))))⟩,
    ⟨none, .pick (.l 6) (.l 0) (.v (.c (.d (.bool false))))⟩,
    ⟨none, .mov (.l 0)⟩,
    ⟨some (0, true), .vc 13 []⟩,
    ⟨none, .pick (.l 1) (.l 0) (.v (.c (.d (.bool false))))⟩,
    ⟨none, .mov (.l 0)⟩] [(0, 0)] []) (
  .ret)))))))))))⟩
theorem fn7_is : fn7 = fn7' := rfl

def fn16' : Fn := ⟨1, 5, [0, 1, 2, 3, 17], [.r 2],
  .seq (.reg false [⟨none, .box (.r 0)⟩,
    ⟨none, .mov (.v (.c (.d (.int .i64 0))))⟩] [(1, 1), (2, 0)] []) (
  .seq (.reg false [⟨none, .vc 22 []⟩,
    ⟨none, .pre⟩,
    ⟨none, .ini 4 (.l 1)⟩] [(3, 0)] []) (
  .seq (.seq (.reg false [⟨none, .fa 1 (.r 1)⟩,
    ⟨none, .ld false 1 (.l 0)⟩,
    ⟨none, .fa 1 (.r 3)⟩,
    ⟨none, .ld false 1 (.l 0)⟩,
    ⟨none, .beq true (.l 2) (.l 0)⟩,
    ⟨none, .mov (.l 0)⟩,
    ⟨some (0, false), .fa 2 (.r 1)⟩,
    ⟨some (1, false), .ld false 1 (.l 0)⟩,
    ⟨none, .pick (.l 2) (.v (.c (.d (.bool true)))) (.l 0)⟩,
    ⟨none, .mov (.l 0)⟩,
    ⟨some (0, false), .fa 3 (.r 1)⟩,
    ⟨some (1, false), .ld false 1 (.l 0)⟩,
    ⟨none, .pick (.l 2) (.v (.c (.d (.bool true)))) (.l 0)⟩] [(4, 0)] []) (
  .cond (.r 4) (
  .seq (.reg false [⟨none, .mov (.v (.c (.d (.int .i64 0))))⟩] [(2, 0)] []) (
  .ret)) (
  .skip))) (
  .seq (.reg false [⟨none, .fa 0 (.r 1)⟩,
    ⟨none, .ld false 1 (.l 0)⟩,
    ⟨none, .fa 0 (.r 3)⟩,
    ⟨none, .ld false 1 (.l 0)⟩,
    ⟨none, .vc 36 [(.l 2), (.l 0)]⟩,
    ⟨none, .mov (.l 0)⟩] [(2, 0)] []) (
  .ret))))⟩
theorem fn16_is : fn16 = fn16' := rfl

def fn36L0 : I := .seq (.seq (.reg false [⟨none, .mov (.r 3)⟩,
    ⟨none, .mov (.r 0)⟩,
    ⟨none, .len (.l 0)⟩,
    ⟨none, .bin .lss (.l 2) (.l 0)⟩] [(5, 0)] []) (
  .cond (.r 5) (
  .skip) (
  .exit 0))) (
  .seq (.block 1 (
  .seq (.reg true [⟨none, .mov (.r 0)⟩,
    ⟨none, .mov (.r 3)⟩,
    ⟨none, .ixa 17 (.l 1) (.l 0)⟩,
    ⟨none, .ld true 17 (.l 0)⟩,
    ⟨none, .mov (.r 1)⟩,
    ⟨none, .mov (.r 3)⟩,
    ⟨none, .ixa 17 (.l 1) (.l 0)⟩,
    ⟨none, .ld true 17 (.l 0)⟩,
    ⟨none, .eqa true 17 (.l 4) (.l 0)⟩] [(6, 0)] []) (
  .cond (.r 6) (
  .seq (.reg false [⟨none, .mov (.v (.c (.d (.int .i64 0))))⟩] [(2, 0)] []) (
  .ret)) (
  .skip)))) (
  .reg false [⟨none, .mov (.r 3)⟩,
    ⟨none, .bin .add (.l 0) (.v (.c (.d (.int .i64 1))))⟩,
    ⟨none, .mov (.l 0)⟩] [(3, 0)] []))

def fn36' : Fn := ⟨2, 7, [0, 1, 4, 5, 10, 14, 25], [.r 2],
  .seq (.reg false [⟨none, .mov (.v (.c (.d (.int .i64 0))))⟩] [(2, 0)] []) (
  .seq (.seq (.reg false [⟨none, .mov (.r 0)⟩,
    ⟨none, .len (.l 0)⟩,
    ⟨none, .mov (.r 1)⟩,
    ⟨none, .len (.l 0)⟩,
    ⟨none, .bin .neq (.l 2) (.l 0)⟩] [(4, 0)] []) (
  .cond (.r 4) (
  .seq (.reg false [⟨none, .mov (.v (.c (.d (.int .i64 0))))⟩] [(2, 0)] []) (
  .ret)) (
  .skip))) (
  .seq (.seq (.reg false [⟨none, .mov (.v (.c (.d (.int .i64 0))))⟩] [(3, 0)] []) (
  .block 0 (
  .loop (some [0, 1, 3]) fn36L0))) (
  .seq (.reg false [⟨none, .mov (.v (.c (.d (.int .i64 1))))⟩] [(2, 0)] []) (
  .ret))))⟩
theorem fn36_is : fn36 = fn36' := rfl

end Mini
end Go.Proofs.YtcilepbdddgpoaaDoor
