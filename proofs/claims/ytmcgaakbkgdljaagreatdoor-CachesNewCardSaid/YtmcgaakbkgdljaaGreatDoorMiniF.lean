/-
  The code of the functions that the statements reach, in the abstract machine's form. Printed by a program of ours (tools/mini.py).
-/
import Derived.Test.YtmcgaakbkgdljaaGreatDoorMiniA
namespace Go.Proofs.YtmcgaakbkgdljaaGreatDoor
namespace Mini
/-- vidimus/vidimuslaw42.CachesNew -/
def fn3 : Fn := ⟨1, 5, [0, 2, 3, 4, 15], [.r 1],
  .seq (.reg false [⟨none, .mov (.v (.c (.d (.bool false))))⟩] [(1, 0)] []) (
  .seq (.reg false [⟨none, .mov (.r 0)⟩,
    ⟨none, .hc (.v (.c (.d (.fn 10 [] [])))) [(.l 0)]⟩,
    ⟨none, .mov (.l 0)⟩,
    ⟨none, .ext (.l 0) 0⟩,
    ⟨none, .ext (.l 1) 1⟩,
    ⟨none, .mov (.l 1)⟩,
    ⟨none, .mov (.l 1)⟩] [(2, 1), (3, 0)] []) (
  .seq (.seq (.reg false [⟨none, .mov (.r 0)⟩,
    ⟨none, .bin .lss (.l 0) (.v (.c (.d (.int .i64 1))))⟩,
    ⟨none, .mov (.l 0)⟩,
    ⟨some (0, false), .mov (.r 0)⟩,
    ⟨some (1, false), .bin .gtr (.l 0) (.v (.c (.d (.int .i64 64))))⟩,
    ⟨none, .pick (.l 2) (.v (.c (.d (.bool true)))) (.l 0)⟩] [(4, 0)] []) (
  .cond (.r 4) (
  .seq (.reg false [⟨none, .mov (.r 3)⟩,
    ⟨none, .bin .eql (.l 0) (.v (.c (.d (.int .i64 1))))⟩,
    ⟨none, .mov (.l 0)⟩,
    ⟨some (0, true), .mov (.r 2)⟩,
    ⟨some (1, true), .isz 0 false (.l 0)⟩,
    ⟨none, .pick (.l 2) (.l 0) (.v (.c (.d (.bool false))))⟩,
    ⟨none, .mov (.l 0)⟩,
    ⟨some (0, true), .vc 11 []⟩,
    ⟨none, .pick (.l 1) (.l 0) (.v (.c (.d (.bool false))))⟩,
    ⟨none, .mov (.l 0)⟩] [(1, 0)] []) (
  .ret)) (
  .skip))) (
  .seq (.reg false [⟨none, .mov (.r 3)⟩,
    ⟨none, .bin .eql (.l 0) (.v (.c (.d (.int .i64 0))))⟩,
    ⟨none, .mov (.l 0)⟩,
    ⟨some (0, true), .mov (.r 2)⟩,
    ⟨some (1, true), .isz 0 true (.l 0)⟩,
    ⟨none, .pick (.l 2) (.l 0) (.v (.c (.d (.bool false))))⟩,
    ⟨none, .mov (.l 0)⟩,
    ⟨some (0, true), .mov (.r 2)⟩,
    ⟨some (1, true), .hc (.v (.c (.d (.fn 12 [] [])))) [(.l 0)]⟩,
    ⟨some (2, true), .bin .eql (.l 0) (.v (.c (.d (.int .i64 0))))⟩,
    ⟨none, .pick (.l 3) (.l 0) (.v (.c (.d (.bool false))))⟩,
    ⟨none, .mov (.l 0)⟩,
    ⟨some (0, true), .mov (.r 2)⟩,
    ⟨some (1, true), .hc (.v (.c (.d (.fn 13 [] [])))) [(.l 0)]⟩,
    ⟨some (2, true), .mov (.r 0)⟩,
    ⟨some (3, true), .bin .eql (.l 1) (.l 0)⟩,
    ⟨none, .pick (.l 4) (.l 0) (.v (.c (.d (.bool false))))⟩,
    ⟨none, .mov (.l 0)⟩,
    ⟨some (0, true), .vc 11 []⟩,
    ⟨none, .pick (.l 1) (.l 0) (.v (.c (.d (.bool false))))⟩,
    ⟨none, .mov (.l 0)⟩] [(1, 0)] []) (
  .ret))))⟩

def fn5L0 : I := .seq (.seq (.reg false [⟨none, .mov (.r 16)⟩,
    ⟨none, .mov (.r 5)⟩,
    ⟨none, .bin .lss (.l 1) (.l 0)⟩] [(26, 0)] []) (
  .cond (.r 26) (
  .skip) (
  .exit 2))) (
  .seq (.block 3 (
  .seq (.reg false [⟨none, .mov (.r 16)⟩,
    ⟨none, .vc 19 [(.l 0)]⟩,
    ⟨none, .pre⟩,
    ⟨none, .ini 5 (.l 1)⟩] [(17, 0)] []) (
  .seq (.reg false [⟨none, .mov (.r 7)⟩,
    ⟨none, .fa 0 (.r 17)⟩,
    ⟨none, .ld false 1 (.l 0)⟩,
    ⟨none, .fa 1 (.r 17)⟩,
    ⟨none, .ld true 4 (.l 0)⟩,
    ⟨none, .hc (.v (.c (.d (.fn 16 [] [])))) [(.l 4), (.l 2), (.l 0)]⟩,
    ⟨none, .mov (.l 0)⟩,
    ⟨none, .ext (.l 0) 0⟩,
    ⟨none, .ext (.l 1) 1⟩,
    ⟨none, .mov (.l 1)⟩,
    ⟨none, .mov (.l 1)⟩] [(18, 1), (19, 0)] []) (
  .seq (.reg false [⟨none, .mov (.r 16)⟩,
    ⟨none, .mov (.r 6)⟩,
    ⟨none, .bin .eql (.l 1) (.l 0)⟩,
    ⟨none, .mov (.l 0)⟩,
    ⟨some (0, false), .mov (.r 16)⟩,
    ⟨some (1, false), .mov (.r 6)⟩,
    ⟨some (2, false), .bin .gtr (.l 1) (.l 0)⟩,
    ⟨some (3, false), .mov (.l 0)⟩,
    ⟨some (0, true), .mov (.r 5)⟩,
    ⟨some (1, true), .bin .sub (.l 0) (.v (.c (.d (.int .i64 1))))⟩,
    ⟨some (2, true), .mov (.r 16)⟩,
    ⟨some (3, true), .bin .sub (.l 1) (.l 0)⟩,
    ⟨some (4, true), .mov (.r 4)⟩,
    ⟨some (5, true), .bin .sub (.l 0) (.v (.c (.d (.int .i64 1))))⟩,
    ⟨some (6, true), .bin .lss (.l 2) (.l 0)⟩,
    ⟨some (11, false), .pick (.l 7) (.l 0) (.v (.c (.d (.bool false))))⟩,
    ⟨none, .pick (.l 12) (.v (.c (.d (.bool true)))) (.l 0)⟩,
    ⟨none, .mov (.l 0)⟩,
    ⟨some (0, false), .mov (.r 16)⟩,
    ⟨some (1, false), .mov (.r 6)⟩,
    ⟨some (2, false), .bin .lss (.l 1) (.l 0)⟩,
    ⟨some (3, false), .mov (.l 0)⟩,
    ⟨some (0, true), .mov (.r 5)⟩,
    ⟨some (1, true), .mov (.r 16)⟩,
    ⟨some (2, true), .bin .sub (.l 1) (.l 0)⟩,
    ⟨some (3, true), .mov (.r 4)⟩,
    ⟨some (4, true), .bin .leq (.l 1) (.l 0)⟩,
    ⟨some (9, false), .pick (.l 5) (.l 0) (.v (.c (.d (.bool false))))⟩,
    ⟨none, .pick (.l 10) (.v (.c (.d (.bool true)))) (.l 0)⟩,
    ⟨none, .mov (.l 0)⟩] [(20, 0)] []) (
  .seq (.seq (.reg false [⟨none, .mov (.r 4)⟩,
    ⟨none, .bin .eql (.l 0) (.v (.c (.d (.int .i64 1))))⟩] [(27, 0)] []) (
  .cond (.r 27) (
  .reg false [⟨none, .mov (.r 16)⟩,
    ⟨none, .mov (.r 6)⟩,
    ⟨none, .bin .eql (.l 1) (.l 0)⟩,
    ⟨none, .mov (.l 0)⟩] [(20, 0)] []) (
  .skip))) (
  .seq (.reg false [⟨none, .mov (.r 19)⟩,
    ⟨none, .bin .neq (.l 0) (.v (.c (.d (.int .i64 0))))⟩,
    ⟨none, .mov (.l 0)⟩,
    ⟨some (0, false), .mov (.r 18)⟩,
    ⟨some (1, false), .mov (.r 20)⟩,
    ⟨some (2, false), .beq true (.l 1) (.l 0)⟩,
    ⟨none, .pick (.l 3) (.v (.c (.d (.bool true)))) (.l 0)⟩] [(28, 0)] []) (
  .cond (.r 28) (
  .seq (.reg false [⟨none, .mov (.v (.c (.d (.bool false))))⟩] [(3, 0)] []) (
  .ret)) (
  .skip)))))))) (
  .reg false [⟨none, .mov (.r 16)⟩,
    ⟨none, .bin .add (.l 0) (.v (.c (.d (.int .i64 1))))⟩,
    ⟨none, .mov (.l 0)⟩] [(16, 0)] []))
def fn5L1 : I := .seq (.seq (.reg false [⟨none, .mov (.r 9)⟩,
    ⟨none, .mov (.r 5)⟩,
    ⟨none, .bin .lss (.l 1) (.l 0)⟩] [(22, 0)] []) (
  .cond (.r 22) (
  .skip) (
  .exit 0))) (
  .seq (.block 1 (
  .seq (.reg false [⟨none, .mov (.r 9)⟩,
    ⟨none, .vc 19 [(.l 0)]⟩,
    ⟨none, .pre⟩,
    ⟨none, .ini 5 (.l 1)⟩] [(10, 0)] []) (
  .seq (.reg false [⟨none, .mov (.r 7)⟩,
    ⟨none, .fa 0 (.r 10)⟩,
    ⟨none, .ld false 1 (.l 0)⟩,
    ⟨none, .fa 1 (.r 10)⟩,
    ⟨none, .ld true 4 (.l 0)⟩,
    ⟨none, .hc (.v (.c (.d (.fn 15 [] [])))) [(.l 4), (.l 2), (.l 0)]⟩,
    ⟨none, .mov (.l 0)⟩,
    ⟨none, .ext (.l 0) 0⟩,
    ⟨none, .ext (.l 1) 1⟩,
    ⟨none, .ext (.l 2) 2⟩,
    ⟨none, .pre⟩,
    ⟨none, .ini 5 (.l 3)⟩,
    ⟨none, .mov (.l 3)⟩,
    ⟨none, .mov (.l 3)⟩] [(11, 1), (12, 0)] []) (
  .seq (.seq (.reg false [⟨none, .mov (.r 12)⟩,
    ⟨none, .bin .neq (.l 0) (.v (.c (.d (.int .i64 0))))⟩,
    ⟨none, .mov (.l 0)⟩,
    ⟨some (0, false), .mov (.r 11)⟩,
    ⟨none, .pick (.l 1) (.v (.c (.d (.bool true)))) (.l 0)⟩] [(23, 0)] []) (
  .cond (.r 23) (
  .seq (.reg false [⟨none, .mov (.v (.c (.d (.bool false))))⟩] [(3, 0)] []) (
  .ret)) (
  .skip))) (
  .seq (.reg false [⟨none, .mov (.r 6)⟩,
    ⟨none, .vc 19 [(.l 0)]⟩,
    ⟨none, .pre⟩,
    ⟨none, .ini 5 (.l 1)⟩] [(13, 0)] []) (
  .seq (.reg false [⟨none, .mov (.r 9)⟩,
    ⟨none, .mov (.r 6)⟩,
    ⟨none, .bin .gtr (.l 1) (.l 0)⟩] [(24, 0)] []) (
  .cond (.r 24) (
  .seq (.reg false [⟨none, .mov (.r 7)⟩,
    ⟨none, .fa 0 (.r 13)⟩,
    ⟨none, .ld false 1 (.l 0)⟩,
    ⟨none, .fa 1 (.r 13)⟩,
    ⟨none, .ld true 4 (.l 0)⟩,
    ⟨none, .hc (.v (.c (.d (.fn 15 [] [])))) [(.l 4), (.l 2), (.l 0)]⟩,
    ⟨none, .mov (.l 0)⟩,
    ⟨none, .ext (.l 0) 0⟩,
    ⟨none, .ext (.l 1) 1⟩,
    ⟨none, .ext (.l 2) 2⟩,
    ⟨none, .pre⟩,
    ⟨none, .ini 5 (.l 3)⟩,
    ⟨none, .mov (.l 3)⟩,
    ⟨none, .mov (.l 3)⟩] [(14, 1), (15, 0)] []) (
  .seq (.reg false [⟨none, .mov (.r 15)⟩,
    ⟨none, .bin .neq (.l 0) (.v (.c (.d (.int .i64 0))))⟩,
    ⟨none, .mov (.l 0)⟩,
    ⟨some (0, false), .mov (.r 14)⟩,
    ⟨some (1, false), .mov (.r 4)⟩,
    ⟨some (2, false), .bin .gtr (.l 0) (.v (.c (.d (.int .i64 1))))⟩,
    ⟨some (3, false), .beq true (.l 2) (.l 0)⟩,
    ⟨none, .pick (.l 4) (.v (.c (.d (.bool true)))) (.l 0)⟩] [(25, 0)] []) (
  .cond (.r 25) (
  .seq (.reg false [⟨none, .mov (.v (.c (.d (.bool false))))⟩] [(3, 0)] []) (
  .ret)) (
  .skip)))) (
  .skip)))))))) (
  .reg false [⟨none, .mov (.r 9)⟩,
    ⟨none, .bin .add (.l 0) (.v (.c (.d (.int .i64 1))))⟩,
    ⟨none, .mov (.l 0)⟩] [(9, 0)] []))
/-- vidimus/vidimuslaw42.CachesOrder -/
def fn5 : Fn := ⟨3, 29, [0, 1, 2, 6, 7, 8, 9, 10, 11, 12, 13, 15, 16, 17, 19, 20, 21, 22, 23, 24, 25, 44, 47, 66, 71, 89, 92, 136, 146], [.r 3],
  .seq (.reg false [⟨none, .mov (.v (.c (.d (.bool false))))⟩] [(3, 0)] []) (
  .seq (.reg false [⟨none, .mov (.r 0)⟩,
    ⟨none, .bin .rem (.l 0) (.v (.c (.d (.int .u8 64))))⟩,
    ⟨none, .cvi .i64 (.l 0)⟩,
    ⟨none, .bin .add (.v (.c (.d (.int .i64 1)))) (.l 0)⟩,
    ⟨none, .mov (.r 1)⟩,
    ⟨none, .bin .rem (.l 0) (.v (.c (.d (.int .u8 100))))⟩,
    ⟨none, .cvi .i64 (.l 0)⟩,
    ⟨none, .bin .add (.v (.c (.d (.int .i64 1)))) (.l 0)⟩,
    ⟨none, .mov (.l 4)⟩,
    ⟨none, .mov (.l 1)⟩] [(4, 1), (5, 0)] []) (
  .seq (.reg false [⟨none, .mov (.r 2)⟩,
    ⟨none, .cvi .i64 (.l 0)⟩,
    ⟨none, .mov (.r 5)⟩,
    ⟨none, .bin .rem (.l 1) (.l 0)⟩,
    ⟨none, .mov (.l 0)⟩] [(6, 0)] []) (
  .seq (.reg false [⟨none, .mov (.r 4)⟩,
    ⟨none, .hc (.v (.c (.d (.fn 10 [] [])))) [(.l 0)]⟩,
    ⟨none, .mov (.l 0)⟩,
    ⟨none, .ext (.l 0) 0⟩,
    ⟨none, .ext (.l 1) 1⟩,
    ⟨none, .mov (.l 1)⟩,
    ⟨none, .mov (.l 1)⟩] [(7, 1), (8, 0)] []) (
  .seq (.seq (.reg false [⟨none, .mov (.r 8)⟩,
    ⟨none, .bin .neq (.l 0) (.v (.c (.d (.int .i64 0))))⟩] [(21, 0)] []) (
  .cond (.r 21) (
  .seq (.reg false [⟨none, .mov (.v (.c (.d (.bool false))))⟩] [(3, 0)] []) (
  .ret)) (
  .skip))) (
  .seq (.seq (.reg false [⟨none, .mov (.v (.c (.d (.int .i64 0))))⟩] [(9, 0)] []) (
  .block 0 (
  .loop (some [4, 5, 6, 7, 9]) fn5L1))) (
  .seq (.seq (.reg false [⟨none, .mov (.v (.c (.d (.int .i64 0))))⟩] [(16, 0)] []) (
  .block 2 (
  .loop (some [4, 5, 6, 7, 16]) fn5L0))) (
  .seq (.reg false [⟨none, .mov (.r 7)⟩,
    ⟨none, .hc (.v (.c (.d (.fn 12 [] [])))) [(.l 0)]⟩,
    ⟨none, .mov (.r 4)⟩,
    ⟨none, .mov (.r 5)⟩,
    ⟨none, .mm false (.l 1) (.l 0)⟩,
    ⟨none, .bin .eql (.l 3) (.l 0)⟩,
    ⟨none, .mov (.l 0)⟩,
    ⟨some (0, true), .vc 11 []⟩,
    ⟨none, .pick (.l 1) (.l 0) (.v (.c (.d (.bool false))))⟩,
    ⟨none, .mov (.l 0)⟩] [(3, 0)] []) (
  .ret))))))))⟩

def fn6L0 : I := .seq (.seq (.reg false [⟨none, .mov (.r 3)⟩,
    ⟨none, .bin .lss (.l 0) (.v (.c (.d (.int .i64 64))))⟩] [(13, 0)] []) (
  .cond (.r 13) (
  .skip) (
  .exit 0))) (
  .seq (.block 1 (
  .seq (.reg false [⟨none, .mov (.r 3)⟩,
    ⟨none, .vc 19 [(.l 0)]⟩,
    ⟨none, .pre⟩,
    ⟨none, .ini 5 (.l 1)⟩] [(4, 0)] []) (
  .reg false [⟨none, .mov (.r 1)⟩,
    ⟨none, .fa 0 (.r 4)⟩,
    ⟨none, .ld false 1 (.l 0)⟩,
    ⟨none, .fa 1 (.r 4)⟩,
    ⟨none, .ld true 4 (.l 0)⟩,
    ⟨none, .hc (.v (.c (.d (.fn 15 [] [])))) [(.l 4), (.l 2), (.l 0)]⟩] [] []))) (
  .reg false [⟨none, .mov (.r 3)⟩,
    ⟨none, .bin .add (.l 0) (.v (.c (.d (.int .i64 1))))⟩,
    ⟨none, .mov (.l 0)⟩] [(3, 0)] []))
/-- vidimus/vidimuslaw42.CachesKnown -/
def fn6 : Fn := ⟨0, 16, [0, 1, 2, 3, 4, 5, 6, 7, 9, 10, 11, 12, 18, 20, 50, 87], [.r 0],
  .seq (.reg false [⟨none, .mov (.v (.c (.d (.bool false))))⟩] [(0, 0)] []) (
  .seq (.reg false [⟨none, .hc (.v (.c (.d (.fn 10 [] [])))) [(.v (.c (.d (.int .i64 64))))]⟩,
    ⟨none, .mov (.l 0)⟩,
    ⟨none, .ext (.l 0) 0⟩,
    ⟨none, .ext (.l 1) 1⟩,
    ⟨none, .mov (.l 1)⟩,
    ⟨none, .mov (.l 1)⟩] [(1, 1), (2, 0)] []) (
  .seq (.seq (.reg false [⟨none, .mov (.r 2)⟩,
    ⟨none, .bin .neq (.l 0) (.v (.c (.d (.int .i64 0))))⟩] [(12, 0)] []) (
  .cond (.r 12) (
  .seq (.reg false [⟨none, .mov (.v (.c (.d (.bool false))))⟩] [(0, 0)] []) (
  .ret)) (
  .skip))) (
  .seq (.seq (.reg false [⟨none, .mov (.v (.c (.d (.int .i64 0))))⟩] [(3, 0)] []) (
  .block 0 (
  .loop (some [1, 3]) fn6L0))) (
  .seq (.reg false [⟨none, .vc 19 [(.v (.c (.d (.int .i64 0))))]⟩,
    ⟨none, .vc 19 [(.v (.c (.d (.int .i64 1))))]⟩,
    ⟨none, .vc 19 [(.v (.c (.d (.int .i64 64))))]⟩,
    ⟨none, .pre⟩,
    ⟨none, .pre⟩,
    ⟨none, .pre⟩,
    ⟨none, .ini 5 (.l 5)⟩,
    ⟨none, .ini 5 (.l 5)⟩,
    ⟨none, .ini 5 (.l 5)⟩] [(5, 2), (6, 1), (7, 0)] []) (
  .seq (.seq (.reg false [⟨none, .mov (.r 1)⟩,
    ⟨none, .hc (.v (.c (.d (.fn 12 [] [])))) [(.l 0)]⟩,
    ⟨none, .bin .neq (.l 0) (.v (.c (.d (.int .i64 64))))⟩,
    ⟨none, .mov (.l 0)⟩,
    ⟨some (0, false), .mov (.r 1)⟩,
    ⟨some (1, false), .fa 0 (.r 6)⟩,
    ⟨some (2, false), .ld false 1 (.l 0)⟩,
    ⟨some (3, false), .fa 1 (.r 6)⟩,
    ⟨some (4, false), .ld true 4 (.l 0)⟩,
    ⟨some (5, false), .hc (.v (.c (.d (.fn 18 [] [])))) [(.l 4), (.l 2), (.l 0)]⟩,
    ⟨some (6, false), .bin .neq (.l 0) (.v (.c (.d (.int .i64 0))))⟩,
    ⟨none, .pick (.l 7) (.v (.c (.d (.bool true)))) (.l 0)⟩,
    ⟨none, .mov (.l 0)⟩,
    ⟨some (0, false), .mov (.r 1)⟩,
    ⟨some (1, false), .hc (.v (.c (.d (.fn 12 [] [])))) [(.l 0)]⟩,
    ⟨some (2, false), .bin .neq (.l 0) (.v (.c (.d (.int .i64 63))))⟩,
    ⟨none, .pick (.l 3) (.v (.c (.d (.bool true)))) (.l 0)⟩] [(14, 0)] []) (
  .cond (.r 14) (
  .seq (.reg false [⟨none, .mov (.v (.c (.d (.bool false))))⟩] [(0, 0)] []) (
  .ret)) (
  .skip))) (
  .seq (.reg false [⟨none, .mov (.r 1)⟩,
    ⟨none, .fa 0 (.r 7)⟩,
    ⟨none, .ld false 1 (.l 0)⟩,
    ⟨none, .fa 1 (.r 7)⟩,
    ⟨none, .ld true 4 (.l 0)⟩,
    ⟨none, .hc (.v (.c (.d (.fn 15 [] [])))) [(.l 4), (.l 2), (.l 0)]⟩,
    ⟨none, .mov (.l 0)⟩,
    ⟨none, .ext (.l 0) 0⟩,
    ⟨none, .ext (.l 1) 1⟩,
    ⟨none, .ext (.l 2) 2⟩,
    ⟨none, .pre⟩,
    ⟨none, .ini 5 (.l 3)⟩,
    ⟨none, .mov (.l 3)⟩,
    ⟨none, .mov (.l 3)⟩] [(8, 1), (9, 0)] []) (
  .seq (.reg false [⟨none, .mov (.r 1)⟩,
    ⟨none, .fa 0 (.r 5)⟩,
    ⟨none, .ld false 1 (.l 0)⟩,
    ⟨none, .fa 1 (.r 5)⟩,
    ⟨none, .ld true 4 (.l 0)⟩,
    ⟨none, .hc (.v (.c (.d (.fn 16 [] [])))) [(.l 4), (.l 2), (.l 0)]⟩,
    ⟨none, .mov (.l 0)⟩,
    ⟨none, .ext (.l 0) 0⟩,
    ⟨none, .ext (.l 1) 1⟩,
    ⟨none, .mov (.l 1)⟩,
    ⟨none, .mov (.l 1)⟩] [(10, 1), (11, 0)] []) (
  .seq (.seq (.reg false [⟨none, .mov (.r 9)⟩,
    ⟨none, .bin .neq (.l 0) (.v (.c (.d (.int .i64 0))))⟩,
    ⟨none, .mov (.l 0)⟩,
    ⟨some (0, false), .mov (.r 11)⟩,
    ⟨some (1, false), .bin .neq (.l 0) (.v (.c (.d (.int .i64 0))))⟩,
    ⟨none, .pick (.l 2) (.v (.c (.d (.bool true)))) (.l 0)⟩,
    ⟨none, .mov (.l 0)⟩,
    ⟨some (0, false), .mov (.r 8)⟩,
    ⟨none, .pick (.l 1) (.v (.c (.d (.bool true)))) (.l 0)⟩,
    ⟨none, .mov (.l 0)⟩,
    ⟨some (0, false), .mov (.r 10)⟩,
    ⟨some (1, false), .un .not (.l 0)⟩,
    ⟨none, .pick (.l 2) (.v (.c (.d (.bool true)))) (.l 0)⟩,
    ⟨none, .mov (.l 0)⟩,
    ⟨some (0, false), .mov (.r 1)⟩,
    ⟨some (1, false), .hc (.v (.c (.d (.fn 12 [] [])))) [(.l 0)]⟩,
    ⟨some (2, false), .bin .neq (.l 0) (.v (.c (.d (.int .i64 64))))⟩,
    ⟨none, .pick (.l 3) (.v (.c (.d (.bool true)))) (.l 0)⟩] [(15, 0)] []) (
  .cond (.r 15) (
  .seq (.reg false [⟨none, .mov (.v (.c (.d (.bool false))))⟩] [(0, 0)] []) (
  .ret)) (
  .skip))) (
  .seq (.reg false [⟨none, .mov (.r 1)⟩,
    ⟨none, .fa 0 (.r 6)⟩,
    ⟨none, .ld false 1 (.l 0)⟩,
    ⟨none, .fa 1 (.r 6)⟩,
    ⟨none, .ld true 4 (.l 0)⟩,
    ⟨none, .hc (.v (.c (.d (.fn 15 [] [])))) [(.l 4), (.l 2), (.l 0)]⟩] [] []) (
  .seq (.reg false [⟨none, .mov (.r 1)⟩,
    ⟨none, .fa 0 (.r 5)⟩,
    ⟨none, .ld false 1 (.l 0)⟩,
    ⟨none, .fa 1 (.r 5)⟩,
    ⟨none, .ld true 4 (.l 0)⟩,
    ⟨none, .hc (.v (.c (.d (.fn 16 [] [])))) [(.l 4), (.l 2), (.l 0)]⟩,
    ⟨none, .mov (.l 0)⟩,
    ⟨none, .ext (.l 0) 0⟩,
    ⟨none, .ext (.l 1) 1⟩,
    ⟨none, .mov (.l 1)⟩,
    ⟨none, .mov (.l 1)⟩] [(10, 1), (11, 0)] []) (
  .seq (.reg false [⟨none, .mov (.r 11)⟩,
    ⟨none, .bin .eql (.l 0) (.v (.c (.d (.int .i64 0))))⟩,
    ⟨none, .mov (.l 0)⟩,
    ⟨some (0, true), .mov (.r 10)⟩,
    ⟨some (1, true), .un .not (.l 0)⟩,
    ⟨none, .pick (.l 2) (.l 0) (.v (.c (.d (.bool false))))⟩,
    ⟨none, .mov (.l 0)⟩,
    ⟨some (0, true), .mov (.r 1)⟩,
    ⟨some (1, true), .hc (.v (.c (.d (.fn 12 [] [])))) [(.l 0)]⟩,
    ⟨some (2, true), .bin .eql (.l 0) (.v (.c (.d (.int .i64 64))))⟩,
    ⟨none, .pick (.l 3) (.l 0) (.v (.c (.d (.bool false))))⟩,
    ⟨none, .mov (.l 0)⟩,
    ⟨some (0, true), .vc 11 []⟩,
    ⟨none, .pick (.l 1) (.l 0) (.v (.c (.d (.bool false))))⟩,
    ⟨none, .mov (.l 0)⟩] [(0, 0)] []) (
  .ret))))))))))))⟩

def fn10L0 : I := .seq (.reg false [⟨none, .bin .lss (.r 7) (.r 6)⟩] [(8, 0)] []) (
  .seq (.cond (.r 8) (
  .skip) (
  .exit 0)) (
  .seq (.block 1 (
  .seq (.reg false [⟨none, .mov (.r 7)⟩,
    ⟨none, .mov (.l 0)⟩] [(4, 0)] []) (
  .chain [.op (.mov (.r 3)) 9, .op (.nlc (.r 9)) 10, .op (.fa 2 (.r 10)) 11, .op (.ld false 1 (.r 11)) 12, .op (.mov (.r 4)) 13, .snd (.r 12) (.r 13)]))) (
  .reg false [⟨none, .bin .add (.r 7) (.v (.c (.d (.int .i64 1))))⟩,
    ⟨none, .mov (.l 0)⟩] [(7, 0)] [])))
/-- vidimus/caches.New -/
def fn10 : Fn := ⟨1, 14, [0, 2, 3, 4, 5, 11, 18, 19, 20, 22, 23, 24, 25, 26], [.r 1, .r 2],
  .seq (.reg false [⟨none, .mov (.v (.c (.d (.nilp))))⟩,
    ⟨none, .mov (.v (.c (.d (.int .i64 0))))⟩] [(1, 1), (2, 0)] []) (
  .seq (.seq (.reg false [⟨none, .mov (.r 0)⟩,
    ⟨none, .bin .lss (.l 0) (.v (.c (.d (.int .i64 1))))⟩,
    ⟨none, .mov (.l 0)⟩,
    ⟨some (0, false), .mov (.r 0)⟩,
    ⟨some (1, false), .bin .gtr (.l 0) (.v (.c (.d (.int .i64 64))))⟩,
    ⟨none, .pick (.l 2) (.v (.c (.d (.bool true)))) (.l 0)⟩] [(5, 0)] []) (
  .cond (.r 5) (
  .seq (.reg false [⟨none, .mov (.v (.c (.d (.nilp))))⟩,
    ⟨none, .mov (.v (.c (.d (.int .i64 1))))⟩] [(1, 1), (2, 0)] []) (
  .ret)) (
  .skip))) (
  .seq (.reg true [⟨none, .mov (.r 0)⟩,
    ⟨none, .mks 10 120 [.nils, .nils, .bool false, .bool false, .bool false, .bool false, .int .u8 0, .int .i64 0, .nils, .nils] (.l 0) (.l 0)⟩,
    ⟨none, .mov (.r 0)⟩,
    ⟨none, .mkc 8 (.l 0)⟩,
    ⟨none, .bld [.nils, .nils, .nilch] [(0, 1, (.l 2)), (2, 1, (.l 0))]⟩,
    ⟨none, .box (.l 0)⟩,
    ⟨none, .mov (.l 0)⟩] [(3, 0)] []) (
  .seq (.seq (.reg false [⟨none, .mov (.r 0)⟩,
    ⟨none, .mov (.v (.c (.d (.int .i64 0))))⟩] [(6, 1), (7, 0)] []) (
  .block 0 (
  .loop (some [3, 6, 7]) fn10L0))) (
  .seq (.reg false [⟨none, .mov (.r 3)⟩,
    ⟨none, .mov (.l 0)⟩,
    ⟨none, .mov (.v (.c (.d (.int .i64 0))))⟩] [(1, 1), (2, 0)] []) (
  .ret)))))⟩

/-- vidimus/vidimuslaw42.lives -/
def fn11 : Fn := ⟨0, 25, [0, 1, 2, 4, 6, 7, 8, 9, 11, 12, 14, 15, 17, 18, 20, 21, 22, 23, 24, 25, 26, 27, 57, 124, 177], [.r 0],
  .seq (.reg false [⟨none, .mov (.v (.c (.d (.bool false))))⟩] [(0, 0)] []) (
  .seq (.reg false [⟨none, .hc (.v (.c (.d (.fn 10 [] [])))) [(.v (.c (.d (.int .i64 2))))]⟩,
    ⟨none, .mov (.l 0)⟩,
    ⟨none, .ext (.l 0) 0⟩,
    ⟨none, .ext (.l 1) 1⟩,
    ⟨none, .mov (.l 1)⟩,
    ⟨none, .mov (.l 1)⟩] [(1, 1), (2, 0)] []) (
  .seq (.reg false [⟨none, .hc (.v (.c (.d (.fn 10 [] [])))) [(.v (.c (.d (.int .i64 0))))]⟩,
    ⟨none, .mov (.l 0)⟩,
    ⟨none, .ext (.l 0) 0⟩,
    ⟨none, .ext (.l 1) 1⟩,
    ⟨none, .mov (.l 1)⟩,
    ⟨none, .mov (.l 1)⟩] [(3, 0)] []) (
  .seq (.reg false [⟨none, .hc (.v (.c (.d (.fn 10 [] [])))) [(.v (.c (.d (.int .i64 65))))]⟩,
    ⟨none, .mov (.l 0)⟩,
    ⟨none, .ext (.l 0) 0⟩,
    ⟨none, .ext (.l 1) 1⟩,
    ⟨none, .mov (.l 1)⟩,
    ⟨none, .mov (.l 1)⟩] [(4, 0)] []) (
  .seq (.reg false [⟨none, .vc 19 [(.v (.c (.d (.int .i64 1))))]⟩,
    ⟨none, .vc 19 [(.v (.c (.d (.int .i64 2))))]⟩,
    ⟨none, .vc 19 [(.v (.c (.d (.int .i64 3))))]⟩,
    ⟨none, .pre⟩,
    ⟨none, .pre⟩,
    ⟨none, .pre⟩,
    ⟨none, .ini 5 (.l 5)⟩,
    ⟨none, .ini 5 (.l 5)⟩,
    ⟨none, .ini 5 (.l 5)⟩] [(5, 2), (6, 1), (7, 0)] []) (
  .seq (.seq (.reg false [⟨none, .mov (.r 2)⟩,
    ⟨none, .bin .neq (.l 0) (.v (.c (.d (.int .i64 0))))⟩,
    ⟨none, .mov (.l 0)⟩,
    ⟨some (0, false), .mov (.r 3)⟩,
    ⟨some (1, false), .bin .neq (.l 0) (.v (.c (.d (.int .i64 1))))⟩,
    ⟨none, .pick (.l 2) (.v (.c (.d (.bool true)))) (.l 0)⟩,
    ⟨none, .mov (.l 0)⟩,
    ⟨some (0, false), .mov (.r 4)⟩,
    ⟨some (1, false), .bin .neq (.l 0) (.v (.c (.d (.int .i64 1))))⟩,
    ⟨none, .pick (.l 2) (.v (.c (.d (.bool true)))) (.l 0)⟩,
    ⟨none, .mov (.l 0)⟩,
    ⟨some (0, false), .mov (.r 1)⟩,
    ⟨some (1, false), .hc (.v (.c (.d (.fn 13 [] [])))) [(.l 0)]⟩,
    ⟨some (2, false), .bin .neq (.l 0) (.v (.c (.d (.int .i64 2))))⟩,
    ⟨none, .pick (.l 3) (.v (.c (.d (.bool true)))) (.l 0)⟩] [(22, 0)] []) (
  .cond (.r 22) (
  .seq (.reg false [⟨none, .mov (.v (.c (.d (.bool false))))⟩] [(0, 0)] []) (
  .ret)) (
  .skip))) (
  .seq (.reg false [⟨none, .mov (.r 1)⟩,
    ⟨none, .fa 0 (.r 5)⟩,
    ⟨none, .ld false 1 (.l 0)⟩,
    ⟨none, .fa 1 (.r 5)⟩,
    ⟨none, .ld true 4 (.l 0)⟩,
    ⟨none, .hc (.v (.c (.d (.fn 15 [] [])))) [(.l 4), (.l 2), (.l 0)]⟩,
    ⟨none, .mov (.l 0)⟩,
    ⟨none, .ext (.l 0) 0⟩,
    ⟨none, .ext (.l 1) 1⟩,
    ⟨none, .ext (.l 2) 2⟩,
    ⟨none, .pre⟩,
    ⟨none, .ini 5 (.l 3)⟩,
    ⟨none, .mov (.l 3)⟩,
    ⟨none, .mov (.l 3)⟩] [(8, 1), (9, 0)] []) (
  .seq (.reg false [⟨none, .mov (.r 1)⟩,
    ⟨none, .fa 0 (.r 6)⟩,
    ⟨none, .ld false 1 (.l 0)⟩,
    ⟨none, .fa 1 (.r 6)⟩,
    ⟨none, .ld true 4 (.l 0)⟩,
    ⟨none, .hc (.v (.c (.d (.fn 15 [] [])))) [(.l 4), (.l 2), (.l 0)]⟩,
    ⟨none, .mov (.l 0)⟩,
    ⟨none, .ext (.l 0) 0⟩,
    ⟨none, .ext (.l 1) 1⟩,
    ⟨none, .ext (.l 2) 2⟩,
    ⟨none, .pre⟩,
    ⟨none, .ini 5 (.l 3)⟩,
    ⟨none, .mov (.l 3)⟩,
    ⟨none, .mov (.l 3)⟩] [(10, 1), (11, 0)] []) (
  .seq (.reg false [⟨none, .mov (.r 1)⟩,
    ⟨none, .fa 0 (.r 5)⟩,
    ⟨none, .ld false 1 (.l 0)⟩,
    ⟨none, .fa 1 (.r 5)⟩,
    ⟨none, .ld true 4 (.l 0)⟩,
    ⟨none, .hc (.v (.c (.d (.fn 15 [] [])))) [(.l 4), (.l 2), (.l 0)]⟩,
    ⟨none, .mov (.l 0)⟩,
    ⟨none, .ext (.l 0) 0⟩,
    ⟨none, .ext (.l 1) 1⟩,
    ⟨none, .ext (.l 2) 2⟩,
    ⟨none, .pre⟩,
    ⟨none, .ini 5 (.l 3)⟩,
    ⟨none, .mov (.l 3)⟩,
    ⟨none, .mov (.l 3)⟩] [(12, 1), (13, 0)] []) (
  .seq (.reg false [⟨none, .mov (.r 1)⟩,
    ⟨none, .fa 0 (.r 7)⟩,
    ⟨none, .ld false 1 (.l 0)⟩,
    ⟨none, .fa 1 (.r 7)⟩,
    ⟨none, .ld true 4 (.l 0)⟩,
    ⟨none, .hc (.v (.c (.d (.fn 15 [] [])))) [(.l 4), (.l 2), (.l 0)]⟩,
    ⟨none, .mov (.l 0)⟩,
    ⟨none, .ext (.l 0) 0⟩,
    ⟨none, .ext (.l 1) 1⟩,
    ⟨none, .ext (.l 2) 2⟩,
    ⟨none, .pre⟩,
    ⟨none, .ini 5 (.l 3)⟩,
    ⟨none, .mov (.l 3)⟩,
    ⟨none, .mov (.l 3)⟩] [(14, 1), (15, 0)] []) (
  .seq (.seq (.reg false [⟨none, .mov (.r 9)⟩,
    ⟨none, .bin .neq (.l 0) (.v (.c (.d (.int .i64 0))))⟩,
    ⟨none, .mov (.l 0)⟩,
    ⟨some (0, false), .mov (.r 11)⟩,
    ⟨some (1, false), .bin .neq (.l 0) (.v (.c (.d (.int .i64 0))))⟩,
    ⟨none, .pick (.l 2) (.v (.c (.d (.bool true)))) (.l 0)⟩,
    ⟨none, .mov (.l 0)⟩,
    ⟨some (0, false), .mov (.r 13)⟩,
    ⟨some (1, false), .bin .neq (.l 0) (.v (.c (.d (.int .i64 0))))⟩,
    ⟨none, .pick (.l 2) (.v (.c (.d (.bool true)))) (.l 0)⟩,
    ⟨none, .mov (.l 0)⟩,
    ⟨some (0, false), .mov (.r 15)⟩,
    ⟨some (1, false), .bin .neq (.l 0) (.v (.c (.d (.int .i64 0))))⟩,
    ⟨none, .pick (.l 2) (.v (.c (.d (.bool true)))) (.l 0)⟩,
    ⟨none, .mov (.l 0)⟩,
    ⟨some (0, false), .mov (.r 8)⟩,
    ⟨none, .pick (.l 1) (.v (.c (.d (.bool true)))) (.l 0)⟩,
    ⟨none, .mov (.l 0)⟩,
    ⟨some (0, false), .mov (.r 10)⟩,
    ⟨none, .pick (.l 1) (.v (.c (.d (.bool true)))) (.l 0)⟩,
    ⟨none, .mov (.l 0)⟩,
    ⟨some (0, false), .mov (.r 12)⟩,
    ⟨some (1, false), .un .not (.l 0)⟩,
    ⟨none, .pick (.l 2) (.v (.c (.d (.bool true)))) (.l 0)⟩,
    ⟨none, .mov (.l 0)⟩,
    ⟨some (0, false), .mov (.r 14)⟩,
    ⟨none, .pick (.l 1) (.v (.c (.d (.bool true)))) (.l 0)⟩] [(23, 0)] []) (
  .cond (.r 23) (
  .seq (.reg false [⟨none, .mov (.v (.c (.d (.bool false))))⟩] [(0, 0)] []) (
  .ret)) (
  .skip))) (
  .seq (.reg false [⟨none, .mov (.r 1)⟩,
    ⟨none, .fa 0 (.r 5)⟩,
    ⟨none, .ld false 1 (.l 0)⟩,
    ⟨none, .fa 1 (.r 5)⟩,
    ⟨none, .ld true 4 (.l 0)⟩,
    ⟨none, .hc (.v (.c (.d (.fn 16 [] [])))) [(.l 4), (.l 2), (.l 0)]⟩,
    ⟨none, .mov (.l 0)⟩,
    ⟨none, .ext (.l 0) 0⟩,
    ⟨none, .ext (.l 1) 1⟩,
    ⟨none, .mov (.l 1)⟩,
    ⟨none, .mov (.l 1)⟩] [(16, 1), (17, 0)] []) (
  .seq (.reg false [⟨none, .mov (.r 1)⟩,
    ⟨none, .fa 0 (.r 6)⟩,
    ⟨none, .ld false 1 (.l 0)⟩,
    ⟨none, .fa 1 (.r 6)⟩,
    ⟨none, .ld true 4 (.l 0)⟩,
    ⟨none, .hc (.v (.c (.d (.fn 16 [] [])))) [(.l 4), (.l 2), (.l 0)]⟩,
    ⟨none, .mov (.l 0)⟩,
    ⟨none, .ext (.l 0) 0⟩,
    ⟨none, .ext (.l 1) 1⟩,
    ⟨none, .mov (.l 1)⟩,
    ⟨none, .mov (.l 1)⟩] [(18, 1), (19, 0)] []) (
  .seq (.reg false [⟨none, .mov (.r 1)⟩,
    ⟨none, .fa 0 (.r 7)⟩,
    ⟨none, .ld false 1 (.l 0)⟩,
    ⟨none, .fa 1 (.r 7)⟩,
    ⟨none, .ld true 4 (.l 0)⟩,
    ⟨none, .hc (.v (.c (.d (.fn 16 [] [])))) [(.l 4), (.l 2), (.l 0)]⟩,
    ⟨none, .mov (.l 0)⟩,
    ⟨none, .ext (.l 0) 0⟩,
    ⟨none, .ext (.l 1) 1⟩,
    ⟨none, .mov (.l 1)⟩,
    ⟨none, .mov (.l 1)⟩] [(20, 1), (21, 0)] []) (
  .seq (.seq (.reg false [⟨none, .mov (.r 17)⟩,
    ⟨none, .bin .neq (.l 0) (.v (.c (.d (.int .i64 0))))⟩,
    ⟨none, .mov (.l 0)⟩,
    ⟨some (0, false), .mov (.r 19)⟩,
    ⟨some (1, false), .bin .neq (.l 0) (.v (.c (.d (.int .i64 0))))⟩,
    ⟨none, .pick (.l 2) (.v (.c (.d (.bool true)))) (.l 0)⟩,
    ⟨none, .mov (.l 0)⟩,
    ⟨some (0, false), .mov (.r 21)⟩,
    ⟨some (1, false), .bin .neq (.l 0) (.v (.c (.d (.int .i64 0))))⟩,
    ⟨none, .pick (.l 2) (.v (.c (.d (.bool true)))) (.l 0)⟩,
    ⟨none, .mov (.l 0)⟩,
    ⟨some (0, false), .mov (.r 16)⟩,
    ⟨some (1, false), .un .not (.l 0)⟩,
    ⟨none, .pick (.l 2) (.v (.c (.d (.bool true)))) (.l 0)⟩,
    ⟨none, .mov (.l 0)⟩,
    ⟨some (0, false), .mov (.r 18)⟩,
    ⟨none, .pick (.l 1) (.v (.c (.d (.bool true)))) (.l 0)⟩,
    ⟨none, .mov (.l 0)⟩,
    ⟨some (0, false), .mov (.r 20)⟩,
    ⟨some (1, false), .un .not (.l 0)⟩,
    ⟨none, .pick (.l 2) (.v (.c (.d (.bool true)))) (.l 0)⟩,
    ⟨none, .mov (.l 0)⟩,
    ⟨some (0, false), .mov (.r 1)⟩,
    ⟨some (1, false), .hc (.v (.c (.d (.fn 12 [] [])))) [(.l 0)]⟩,
    ⟨some (2, false), .bin .neq (.l 0) (.v (.c (.d (.int .i64 2))))⟩,
    ⟨none, .pick (.l 3) (.v (.c (.d (.bool true)))) (.l 0)⟩] [(24, 0)] []) (
  .cond (.r 24) (
  .seq (.reg false [⟨none, .mov (.v (.c (.d (.bool false))))⟩] [(0, 0)] []) (
  .ret)) (
  .skip))) (
  .seq (.reg false [⟨none, .mov (.r 1)⟩,
    ⟨none, .fa 0 (.r 5)⟩,
    ⟨none, .ld false 1 (.l 0)⟩,
    ⟨none, .fa 1 (.r 5)⟩,
    ⟨none, .ld true 4 (.l 0)⟩,
    ⟨none, .hc (.v (.c (.d (.fn 18 [] [])))) [(.l 4), (.l 2), (.l 0)]⟩,
    ⟨none, .bin .eql (.l 0) (.v (.c (.d (.int .i64 0))))⟩,
    ⟨none, .mov (.l 0)⟩,
    ⟨some (0, true), .mov (.r 1)⟩,
    ⟨some (1, true), .fa 0 (.r 6)⟩,
    ⟨some (2, true), .ld false 1 (.l 0)⟩,
    ⟨some (3, true), .fa 1 (.r 6)⟩,
    ⟨some (4, true), .ld true 4 (.l 0)⟩,
    ⟨some (5, true), .hc (.v (.c (.d (.fn 18 [] [])))) [(.l 4), (.l 2), (.l 0)]⟩,
    ⟨some (6, true), .bin .eql (.l 0) (.v (.c (.d (.int .i64 19))))⟩,
    ⟨none, .pick (.l 7) (.l 0) (.v (.c (.d (.bool false))))⟩,
    ⟨none, .mov (.l 0)⟩,
    ⟨some (0, true), .mov (.r 1)⟩,
    ⟨some (1, true), .hc (.v (.c (.d (.fn 12 [] [])))) [(.l 0)]⟩,
    ⟨some (2, true), .bin .eql (.l 0) (.v (.c (.d (.int .i64 1))))⟩,
    ⟨none, .pick (.l 3) (.l 0) (.v (.c (.d (.bool false))))⟩,
    ⟨none, .mov (.l 0)⟩] [(0, 0)] []) (
  .ret))))))))))))))))⟩

/-- (*vidimus/caches.Cache).Len -/
def fn12 : Fn := ⟨1, 3, [0, 2, 4], [.r 1],
  .seq (.reg false [⟨none, .mov (.v (.c (.d (.int .i64 0))))⟩] [(1, 0)] []) (
  .seq (.seq (.reg false [⟨none, .mov (.r 0)⟩,
    ⟨none, .hc (.v (.c (.d (.fn 29 [] [])))) [(.l 0)]⟩] [(2, 0)] []) (
  .cond (.r 2) (
  .seq (.reg false [⟨none, .mov (.v (.c (.d (.int .i64 0))))⟩] [(1, 0)] []) (
  .ret)) (
  .skip))) (
  .seq (.reg false [⟨none, .mov (.r 0)⟩,
    ⟨none, .nlc (.l 0)⟩,
    ⟨none, .fa 1 (.l 0)⟩,
    ⟨none, .ld false 1 (.l 0)⟩,
    ⟨none, .len (.l 0)⟩,
    ⟨none, .mov (.l 0)⟩] [(1, 0)] []) (
  .ret)))⟩

/-- (*vidimus/caches.Cache).Most -/
def fn13 : Fn := ⟨1, 3, [0, 2, 4], [.r 1],
  .seq (.reg false [⟨none, .mov (.v (.c (.d (.int .i64 0))))⟩] [(1, 0)] []) (
  .seq (.seq (.reg false [⟨none, .mov (.r 0)⟩,
    ⟨none, .hc (.v (.c (.d (.fn 29 [] [])))) [(.l 0)]⟩] [(2, 0)] []) (
  .cond (.r 2) (
  .seq (.reg false [⟨none, .mov (.v (.c (.d (.int .i64 0))))⟩] [(1, 0)] []) (
  .ret)) (
  .skip))) (
  .seq (.reg false [⟨none, .mov (.r 0)⟩,
    ⟨none, .nlc (.l 0)⟩,
    ⟨none, .fa 0 (.l 0)⟩,
    ⟨none, .ld false 1 (.l 0)⟩,
    ⟨none, .len (.l 0)⟩,
    ⟨none, .mov (.l 0)⟩] [(1, 0)] []) (
  .ret)))⟩

def fn14L0 : I := .seq (.seq (.reg false [⟨none, .mov (.r 7)⟩,
    ⟨none, .fa 1 (.r 1)⟩,
    ⟨none, .ld false 1 (.l 0)⟩,
    ⟨none, .len (.l 0)⟩,
    ⟨none, .bin .lss (.l 3) (.l 0)⟩,
    ⟨none, .mov (.l 0)⟩,
    ⟨some (0, true), .mov (.r 7)⟩,
    ⟨some (1, true), .bin .lss (.l 0) (.v (.c (.d (.int .i64 4))))⟩,
    ⟨none, .pick (.l 2) (.l 0) (.v (.c (.d (.bool false))))⟩] [(10, 0)] []) (
  .cond (.r 10) (
  .skip) (
  .exit 2))) (
  .seq (.block 3 (
  .reg true [⟨none, .fa 0 (.r 6)⟩,
    ⟨none, .ld false 1 (.l 0)⟩,
    ⟨none, .fa 1 (.r 1)⟩,
    ⟨none, .ld false 1 (.l 0)⟩,
    ⟨none, .mov (.r 7)⟩,
    ⟨none, .ixa 1 (.l 1) (.l 0)⟩,
    ⟨none, .ld false 1 (.l 0)⟩,
    ⟨none, .vc 32 [(.l 0)]⟩,
    ⟨none, .vc 31 [(.l 6), (.l 0)]⟩,
    ⟨none, .fa 0 (.r 6)⟩,
    ⟨none, .st 1 (.l 0) (.l 1)⟩] [] [])) (
  .reg false [⟨none, .mov (.r 7)⟩,
    ⟨none, .bin .add (.l 0) (.v (.c (.d (.int .i64 1))))⟩,
    ⟨none, .mov (.l 0)⟩] [(7, 0)] []))
def fn14L1 : I := .seq (.seq (.reg false [⟨none, .mov (.r 5)⟩,
    ⟨none, .fa 0 (.r 1)⟩,
    ⟨none, .ld false 1 (.l 0)⟩,
    ⟨none, .len (.l 0)⟩,
    ⟨none, .bin .lss (.l 3) (.l 0)⟩,
    ⟨none, .mov (.l 0)⟩,
    ⟨some (0, true), .mov (.r 5)⟩,
    ⟨some (1, true), .bin .lss (.l 0) (.v (.c (.d (.int .i64 5))))⟩,
    ⟨none, .pick (.l 2) (.l 0) (.v (.c (.d (.bool false))))⟩] [(8, 0)] []) (
  .cond (.r 8) (
  .skip) (
  .exit 0))) (
  .seq (.block 1 (
  .reg false [⟨none, .mov (.r 4)⟩,
    ⟨none, .fa 0 (.r 1)⟩,
    ⟨none, .ld false 1 (.l 0)⟩,
    ⟨none, .mov (.r 5)⟩,
    ⟨none, .ixa 6 (.l 1) (.l 0)⟩,
    ⟨none, .ld true 6 (.l 0)⟩,
    ⟨none, .vc 30 [(.l 0)]⟩,
    ⟨none, .bsl 1 8 [.bool false, .bool false, .nils, .bool false, .nils, .int .i64 0, .int .i64 0, .int .i64 0] [(0, 8, (.l 0))]⟩,
    ⟨none, .app 8 (.l 7) (.l 0)⟩,
    ⟨none, .mov (.l 0)⟩] [(4, 0)] [])) (
  .reg false [⟨none, .mov (.r 5)⟩,
    ⟨none, .bin .add (.l 0) (.v (.c (.d (.int .i64 1))))⟩,
    ⟨none, .mov (.l 0)⟩] [(5, 0)] []))
/-- (vidimus/vidimuslaw34.C).Of -/
def fn14 : Fn := ⟨1, 11, [0, 1, 2, 3, 4, 5, 6, 7, 16, 30, 57], [.r 2, .cell 3 4 true],
  .seq (.reg false [⟨none, .box (.r 0)⟩,
    ⟨none, .mov (.v (.c (.d (.nils))))⟩,
    ⟨none, .new [.nils, .bool false, .bool false, .bool false]⟩] [(1, 2), (2, 1), (3, 0)] []) (
  .seq (.reg false [⟨none, .mov (.v (.c (.d (.nils))))⟩] [(4, 0)] []) (
  .seq (.seq (.reg false [⟨none, .mov (.v (.c (.d (.int .i64 0))))⟩] [(5, 0)] []) (
  .block 0 (
  .seq (.fresh 4 none 8) (
  .loop (some [1, 3, 4, 5]) fn14L1)))) (
  .seq (.seq (.reg false [⟨none, .mov (.r 4)⟩,
    ⟨none, .len (.l 0)⟩,
    ⟨none, .bin .eql (.l 0) (.v (.c (.d (.int .i64 0))))⟩] [(9, 0)] []) (
  .cond (.r 9) (
  .reg false [⟨none, .mov (.r 4)⟩,
    ⟨none, .bld [.bool false, .nils, .nils, .int .u8 0, .int .u8 0, .int .u8 0] []⟩,
    ⟨none, .vc 30 [(.l 0)]⟩,
    ⟨none, .bsl 1 8 [.bool false, .bool false, .nils, .bool false, .nils, .int .i64 0, .int .i64 0, .int .i64 0] [(0, 8, (.l 0))]⟩,
    ⟨none, .app 8 (.l 3) (.l 0)⟩,
    ⟨none, .mov (.l 0)⟩] [(4, 0)] []) (
  .skip))) (
  .seq (.reg false [⟨none, .fa 2 (.r 1)⟩,
    ⟨none, .ld false 1 (.l 0)⟩,
    ⟨none, .bin .and (.l 0) (.v (.c (.d (.int .u8 1))))⟩,
    ⟨none, .bin .gtr (.l 0) (.v (.c (.d (.int .u8 0))))⟩,
    ⟨none, .fa 2 (.r 1)⟩,
    ⟨none, .ld false 1 (.l 0)⟩,
    ⟨none, .bin .and (.l 0) (.v (.c (.d (.int .u8 2))))⟩,
    ⟨none, .bin .gtr (.l 0) (.v (.c (.d (.int .u8 0))))⟩,
    ⟨none, .fa 2 (.r 1)⟩,
    ⟨none, .ld false 1 (.l 0)⟩,
    ⟨none, .bin .and (.l 0) (.v (.c (.d (.int .u8 4))))⟩,
    ⟨none, .bin .gtr (.l 0) (.v (.c (.d (.int .u8 0))))⟩,
    ⟨none, .bld [.nils, .bool false, .bool false, .bool false] [(1, 1, (.l 8)), (2, 1, (.l 4)), (3, 1, (.l 0))]⟩,
    ⟨none, .pre⟩,
    ⟨none, .ini 4 (.l 1)⟩] [(6, 0)] []) (
  .seq (.seq (.reg false [⟨none, .mov (.v (.c (.d (.int .i64 0))))⟩] [(7, 0)] []) (
  .block 2 (
  .loop (some [1, 3, 4, 6, 7]) fn14L0))) (
  .seq (.reg true [⟨none, .mov (.r 4)⟩,
    ⟨none, .ld true 4 (.r 6)⟩,
    ⟨none, .mov (.l 1)⟩,
    ⟨none, .st 4 (.r 3) (.l 1)⟩] [(2, 1)] []) (
  .ret)))))))⟩

/-- (*vidimus/caches.Cache).Verdict -/
def fn15 : Fn := ⟨3, 17, [0, 1, 2, 5, 6, 7, 8, 9, 10, 11, 13, 20, 58, 64, 65, 66, 67], [.cell 4 5 true, .r 5, .r 6],
  .seq (.reg false [⟨none, .box (.r 2)⟩,
    ⟨none, .new [.bool false, .int .u8 0, .int .i64 0, .nils, .nils]⟩,
    ⟨none, .mov (.v (.c (.d (.bool false))))⟩,
    ⟨none, .mov (.v (.c (.d (.int .i64 0))))⟩] [(3, 3), (4, 2), (5, 1), (6, 0)] []) (
  .seq (.seq (.reg false [⟨none, .mov (.r 0)⟩,
    ⟨none, .hc (.v (.c (.d (.fn 29 [] [])))) [(.l 0)]⟩] [(10, 0)] []) (
  .cond (.r 10) (
  .seq (.reg false [⟨none, .bld [.bool false, .int .u8 0, .int .i64 0, .nils, .nils] []⟩,
    ⟨none, .st 5 (.r 4) (.l 0)⟩,
    ⟨none, .mov (.v (.c (.d (.bool false))))⟩,
    ⟨none, .mov (.v (.c (.d (.int .i64 2))))⟩] [(5, 1), (6, 0)] []) (
  .ret)) (
  .skip))) (
  .seq (.seq (.reg false [⟨none, .mov (.r 0)⟩,
    ⟨none, .mov (.r 1)⟩,
    ⟨none, .ld true 4 (.r 3)⟩,
    ⟨none, .hc (.v (.c (.d (.fn 33 [] [])))) [(.l 2), (.l 1), (.l 0)]⟩,
    ⟨none, .mov (.l 0)⟩] [(7, 0)] []) (
  .seq (.reg false [⟨none, .mov (.r 7)⟩,
    ⟨none, .bin .geq (.l 0) (.v (.c (.d (.int .i64 0))))⟩] [(11, 0)] []) (
  .cond (.r 11) (
  .seq (.reg false [⟨none, .mov (.r 0)⟩,
    ⟨none, .nlc (.l 0)⟩,
    ⟨none, .fa 1 (.l 0)⟩,
    ⟨none, .ld false 1 (.l 0)⟩,
    ⟨none, .mov (.r 7)⟩,
    ⟨none, .ixa 1 (.l 1) (.l 0)⟩,
    ⟨none, .ld false 1 (.l 0)⟩,
    ⟨none, .mov (.l 0)⟩] [(8, 0)] []) (
  .seq (.reg false [⟨none, .mov (.r 0)⟩,
    ⟨none, .mov (.r 0)⟩,
    ⟨none, .nlc (.l 0)⟩,
    ⟨none, .fa 1 (.l 0)⟩,
    ⟨none, .ld false 1 (.l 0)⟩,
    ⟨none, .mov (.r 7)⟩,
    ⟨none, .mov (.r 7)⟩,
    ⟨none, .bin .add (.l 0) (.v (.c (.d (.int .i64 1))))⟩,
    ⟨none, .hc (.v (.c (.d (.fn 34 [] [])))) [(.l 3), (.l 2), (.l 0)]⟩,
    ⟨none, .mov (.r 8)⟩,
    ⟨none, .bsl 1 1 [.int .i64 0] [(0, 1, (.l 0))]⟩,
    ⟨none, .app 1 (.l 2) (.l 0)⟩,
    ⟨none, .nlc (.l 11)⟩,
    ⟨none, .fa 1 (.l 0)⟩,
    ⟨none, .st 1 (.l 0) (.l 2)⟩] [] []) (
  .seq (.reg false [⟨none, .mov (.r 0)⟩,
    ⟨none, .nlc (.l 0)⟩,
    ⟨none, .fa 0 (.l 0)⟩,
    ⟨none, .ld false 1 (.l 0)⟩,
    ⟨none, .mov (.r 8)⟩,
    ⟨none, .ixa 10 (.l 1) (.l 0)⟩,
    ⟨none, .ld true 10 (.l 0)⟩,
    ⟨none, .hc (.v (.c (.d (.fn 35 [] [])))) [(.l 0)]⟩,
    ⟨none, .fld true 5 5 (.l 0)⟩,
    ⟨none, .st 5 (.r 4) (.l 0)⟩,
    ⟨none, .mov (.v (.c (.d (.bool true))))⟩,
    ⟨none, .mov (.v (.c (.d (.int .i64 0))))⟩] [(5, 1), (6, 0)] []) (
  .ret)))) (
  .skip)))) (
  .seq (.reg false [⟨none, .mov (.r 1)⟩,
    ⟨none, .ld true 4 (.r 3)⟩,
    ⟨none, .vc 36 [(.l 1), (.l 0)]⟩,
    ⟨none, .mov (.l 0)⟩,
    ⟨none, .ext (.l 0) 0⟩,
    ⟨none, .ext (.l 1) 1⟩,
    ⟨none, .st 5 (.r 4) (.l 1)⟩,
    ⟨none, .mov (.l 1)⟩] [(6, 0)] []) (
  .seq (.seq (.reg false [⟨none, .mov (.r 6)⟩,
    ⟨none, .bin .neq (.l 0) (.v (.c (.d (.int .i64 0))))⟩] [(12, 0)] []) (
  .cond (.r 12) (
  .seq (.reg false [⟨none, .bld [.bool false, .int .u8 0, .int .i64 0, .nils, .nils] []⟩,
    ⟨none, .mov (.r 6)⟩,
    ⟨none, .st 5 (.r 4) (.l 1)⟩,
    ⟨none, .mov (.v (.c (.d (.bool false))))⟩,
    ⟨none, .mov (.l 2)⟩] [(5, 1), (6, 0)] []) (
  .ret)) (
  .skip))) (
  .seq (.reg false [⟨none, .mov (.v (.c (.d (.int .i64 0))))⟩] [(9, 0)] []) (
  .seq (.seq (.reg false [⟨none, .mov (.r 0)⟩,
    ⟨none, .nlc (.l 0)⟩,
    ⟨none, .fa 2 (.l 0)⟩,
    ⟨none, .ld false 1 (.l 0)⟩] [(13, 0)] []) (
  .seq (.chain [.sel (.r 13) 14 (.c (.d (.int .i64 0))), .op (.ext (.r 14) 0) 15, .op (.bin .eql (.r 15) (.v (.c (.d (.int .i64 0))))) 16]) (
  .block 0 (
  .cond (.r 16) (
  .reg false [⟨none, .ext (.r 14) 2⟩,
    ⟨none, .mov (.l 0)⟩] [(9, 0)] []) (
  .seq (.reg false [⟨none, .mov (.r 0)⟩,
    ⟨none, .nlc (.l 0)⟩,
    ⟨none, .fa 1 (.l 0)⟩,
    ⟨none, .ld false 1 (.l 0)⟩,
    ⟨none, .ixa 1 (.l 0) (.v (.c (.d (.int .i64 0))))⟩,
    ⟨none, .ld false 1 (.l 0)⟩,
    ⟨none, .mov (.l 0)⟩] [(9, 0)] []) (
  .reg false [⟨none, .mov (.r 0)⟩,
    ⟨none, .mov (.r 0)⟩,
    ⟨none, .nlc (.l 0)⟩,
    ⟨none, .fa 1 (.l 0)⟩,
    ⟨none, .ld false 1 (.l 0)⟩,
    ⟨none, .hc (.v (.c (.d (.fn 34 [] [])))) [(.l 0), (.v (.c (.d (.int .i64 0)))), (.v (.c (.d (.int .i64 1))))]⟩,
    ⟨none, .nlc (.l 5)⟩,
    ⟨none, .fa 1 (.l 0)⟩,
    ⟨none, .st 1 (.l 0) (.l 2)⟩] [] [])))))) (
  .seq (.regk true [⟨none, .mov (.r 0)⟩,
    ⟨none, .nlc (.l 0)⟩,
    ⟨none, .fa 0 (.l 0)⟩,
    ⟨none, .ld false 1 (.l 0)⟩,
    ⟨none, .mov (.r 9)⟩,
    ⟨none, .mov (.r 1)⟩,
    ⟨none, .ld true 4 (.r 3)⟩,
    ⟨none, .ld true 5 (.r 4)⟩,
    ⟨none, .bld [.nils, .nils, .bool false, .bool false, .bool false, .bool false, .int .u8 0, .int .i64 0, .nils, .nils] [(0, 1, (.l 2)), (1, 4, (.l 1)), (5, 5, (.l 0))]⟩,
    ⟨none, .hc (.v (.c (.d (.fn 35 [] [])))) [(.l 0)]⟩,
    ⟨none, .ixa 10 (.l 6) (.l 5)⟩,
    ⟨none, .st 10 (.l 0) (.l 1)⟩] [] [0] []) (
  .seq (.reg false [⟨none, .mov (.r 0)⟩,
    ⟨none, .mov (.r 0)⟩,
    ⟨none, .nlc (.l 0)⟩,
    ⟨none, .fa 1 (.l 0)⟩,
    ⟨none, .ld false 1 (.l 0)⟩,
    ⟨none, .mov (.r 9)⟩,
    ⟨none, .bsl 1 1 [.int .i64 0] [(0, 1, (.l 0))]⟩,
    ⟨none, .app 1 (.l 2) (.l 0)⟩,
    ⟨none, .nlc (.l 7)⟩,
    ⟨none, .fa 1 (.l 0)⟩,
    ⟨none, .st 1 (.l 0) (.l 2)⟩] [] []) (
  .seq (.reg false [⟨none, .ld true 5 (.r 4)⟩,
    ⟨none, .st 5 (.r 4) (.l 0)⟩,
    ⟨none, .mov (.v (.c (.d (.bool false))))⟩,
    ⟨none, .mov (.v (.c (.d (.int .i64 0))))⟩] [(5, 1), (6, 0)] []) (
  .ret))))))))))⟩

/-- (*vidimus/caches.Cache).Has -/
def fn16 : Fn := ⟨3, 9, [0, 1, 2, 5, 6, 7, 9, 11, 16], [.r 4, .r 5],
  .seq (.reg false [⟨none, .box (.r 2)⟩,
    ⟨none, .mov (.v (.c (.d (.bool false))))⟩,
    ⟨none, .mov (.v (.c (.d (.int .i64 0))))⟩] [(3, 2), (4, 1), (5, 0)] []) (
  .seq (.seq (.reg false [⟨none, .mov (.r 0)⟩,
    ⟨none, .hc (.v (.c (.d (.fn 29 [] [])))) [(.l 0)]⟩] [(7, 0)] []) (
  .cond (.r 7) (
  .seq (.reg false [⟨none, .mov (.v (.c (.d (.bool false))))⟩,
    ⟨none, .mov (.v (.c (.d (.int .i64 2))))⟩] [(4, 1), (5, 0)] []) (
  .ret)) (
  .skip))) (
  .seq (.seq (.reg false [⟨none, .mov (.r 0)⟩,
    ⟨none, .mov (.r 1)⟩,
    ⟨none, .ld true 4 (.r 3)⟩,
    ⟨none, .hc (.v (.c (.d (.fn 33 [] [])))) [(.l 2), (.l 1), (.l 0)]⟩,
    ⟨none, .bin .geq (.l 0) (.v (.c (.d (.int .i64 0))))⟩] [(8, 0)] []) (
  .cond (.r 8) (
  .seq (.reg false [⟨none, .mov (.v (.c (.d (.bool true))))⟩,
    ⟨none, .mov (.v (.c (.d (.int .i64 0))))⟩] [(4, 1), (5, 0)] []) (
  .ret)) (
  .skip))) (
  .seq (.reg false [⟨none, .mov (.r 1)⟩,
    ⟨none, .ld true 4 (.r 3)⟩,
    ⟨none, .vc 36 [(.l 1), (.l 0)]⟩,
    ⟨none, .mov (.l 0)⟩,
    ⟨none, .ext (.l 0) 0⟩,
    ⟨none, .ext (.l 1) 1⟩,
    ⟨none, .pre⟩,
    ⟨none, .ini 5 (.l 2)⟩,
    ⟨none, .mov (.l 2)⟩] [(6, 0)] []) (
  .seq (.reg false [⟨none, .mov (.r 6)⟩,
    ⟨none, .mov (.v (.c (.d (.bool false))))⟩,
    ⟨none, .mov (.l 1)⟩] [(4, 1), (5, 0)] []) (
  .ret)))))⟩

/-- (*vidimus/caches.Cache).Drop -/
def fn18 : Fn := ⟨3, 16, [0, 1, 2, 5, 6, 7, 9, 10, 12, 18, 26, 53, 54, 55, 56, 57], [.r 4],
  .seq (.reg false [⟨none, .box (.r 2)⟩,
    ⟨none, .mov (.v (.c (.d (.int .i64 0))))⟩] [(3, 1), (4, 0)] []) (
  .seq (.seq (.reg false [⟨none, .mov (.r 0)⟩,
    ⟨none, .hc (.v (.c (.d (.fn 29 [] [])))) [(.l 0)]⟩] [(8, 0)] []) (
  .cond (.r 8) (
  .seq (.reg false [⟨none, .mov (.v (.c (.d (.int .i64 2))))⟩] [(4, 0)] []) (
  .ret)) (
  .skip))) (
  .seq (.reg false [⟨none, .mov (.r 0)⟩,
    ⟨none, .mov (.r 1)⟩,
    ⟨none, .ld true 4 (.r 3)⟩,
    ⟨none, .hc (.v (.c (.d (.fn 33 [] [])))) [(.l 2), (.l 1), (.l 0)]⟩,
    ⟨none, .mov (.l 0)⟩] [(5, 0)] []) (
  .seq (.seq (.reg false [⟨none, .mov (.r 5)⟩,
    ⟨none, .bin .lss (.l 0) (.v (.c (.d (.int .i64 0))))⟩] [(9, 0)] []) (
  .cond (.r 9) (
  .seq (.seq (.reg false [⟨none, .mov (.r 1)⟩,
    ⟨none, .ld true 4 (.r 3)⟩,
    ⟨none, .vc 36 [(.l 1), (.l 0)]⟩,
    ⟨none, .mov (.l 0)⟩,
    ⟨none, .ext (.l 0) 0⟩,
    ⟨none, .ext (.l 1) 1⟩,
    ⟨none, .pre⟩,
    ⟨none, .ini 5 (.l 2)⟩,
    ⟨none, .mov (.l 2)⟩] [(6, 0)] []) (
  .seq (.reg false [⟨none, .mov (.r 6)⟩,
    ⟨none, .bin .neq (.l 0) (.v (.c (.d (.int .i64 0))))⟩] [(10, 0)] []) (
  .cond (.r 10) (
  .seq (.reg false [⟨none, .mov (.r 6)⟩,
    ⟨none, .mov (.l 0)⟩] [(4, 0)] []) (
  .ret)) (
  .skip)))) (
  .seq (.reg false [⟨none, .mov (.v (.c (.d (.int .i64 19))))⟩] [(4, 0)] []) (
  .ret))) (
  .skip))) (
  .seq (.reg false [⟨none, .mov (.r 0)⟩,
    ⟨none, .nlc (.l 0)⟩,
    ⟨none, .fa 1 (.l 0)⟩,
    ⟨none, .ld false 1 (.l 0)⟩,
    ⟨none, .mov (.r 5)⟩,
    ⟨none, .ixa 1 (.l 1) (.l 0)⟩,
    ⟨none, .ld false 1 (.l 0)⟩,
    ⟨none, .mov (.l 0)⟩] [(7, 0)] []) (
  .seq (.reg false [⟨none, .mov (.r 0)⟩,
    ⟨none, .mov (.r 0)⟩,
    ⟨none, .nlc (.l 0)⟩,
    ⟨none, .fa 1 (.l 0)⟩,
    ⟨none, .ld false 1 (.l 0)⟩,
    ⟨none, .mov (.r 5)⟩,
    ⟨none, .mov (.r 5)⟩,
    ⟨none, .bin .add (.l 0) (.v (.c (.d (.int .i64 1))))⟩,
    ⟨none, .hc (.v (.c (.d (.fn 34 [] [])))) [(.l 3), (.l 2), (.l 0)]⟩,
    ⟨none, .nlc (.l 8)⟩,
    ⟨none, .fa 1 (.l 0)⟩,
    ⟨none, .st 1 (.l 0) (.l 2)⟩] [] []) (
  .seq (.reg false [⟨none, .mov (.r 0)⟩,
    ⟨none, .nlc (.l 0)⟩,
    ⟨none, .fa 0 (.l 0)⟩,
    ⟨none, .ld false 1 (.l 0)⟩,
    ⟨none, .mov (.r 7)⟩,
    ⟨none, .bld [.nils, .nils, .bool false, .bool false, .bool false, .bool false, .int .u8 0, .int .i64 0, .nils, .nils] []⟩,
    ⟨none, .ixa 10 (.l 2) (.l 1)⟩,
    ⟨none, .st 10 (.l 0) (.l 1)⟩] [] []) (
  .seq (.chain [.op (.mov (.r 0)) 11, .op (.nlc (.r 11)) 12, .op (.fa 2 (.r 12)) 13, .op (.ld false 1 (.r 13)) 14, .op (.mov (.r 7)) 15, .snd (.r 14) (.r 15)]) (
  .seq (.reg false [⟨none, .mov (.v (.c (.d (.int .i64 0))))⟩] [(4, 0)] []) (
  .ret)))))))))⟩

/-- vidimus/vidimuslaw42.number -/
def fn19 : Fn := ⟨1, 4, [0, 2, 3, 4], [.cell 1 5 true],
  .seq (.reg false [⟨none, .new [.nils, .nils, .bool false, .bool false, .bool false]⟩] [(1, 0)] []) (
  .seq (.reg false [⟨none, .bld [.nils, .nils, .int .u8 0] []⟩,
    ⟨none, .vc 14 [(.l 0)]⟩,
    ⟨none, .mov (.l 0)⟩,
    ⟨none, .ext (.l 0) 0⟩,
    ⟨none, .ext (.l 1) 1⟩,
    ⟨none, .pre⟩,
    ⟨none, .mov (.l 2)⟩,
    ⟨none, .ini 4 (.l 2)⟩] [(2, 1), (3, 0)] []) (
  .seq (.reg false [⟨none, .mov (.r 0)⟩,
    ⟨none, .cvi .u32 (.l 0)⟩,
    ⟨none, .bld [.int .u32 0, .int .u32 0, .int .u32 0, .int .u32 0, .int .u32 0, .int .u32 0, .int .u32 0, .int .u32 0, .int .u32 0, .int .u32 0, .int .u32 0, .int .u32 0, .int .u32 0, .int .u32 0, .int .u32 0, .int .u32 0] [(0, 1, (.v (.c (.d (.int .u32 1))))), (1, 1, (.v (.c (.d (.int .u32 5))))), (2, 1, (.l 0))]⟩,
    ⟨none, .bld [.int .u8 0, .int .u32 0, .int .u32 0, .int .u32 0, .int .u32 0, .int .u32 0, .int .u32 0, .int .u32 0, .int .u32 0, .int .u32 0, .int .u32 0, .int .u32 0, .int .u32 0, .int .u32 0, .int .u32 0, .int .u32 0, .int .u32 0] [(0, 1, (.v (.c (.d (.int .u8 3))))), (1, 16, (.l 0))]⟩,
    ⟨none, .bsl 1 17 [.int .u8 0, .int .u32 0, .int .u32 0, .int .u32 0, .int .u32 0, .int .u32 0, .int .u32 0, .int .u32 0, .int .u32 0, .int .u32 0, .int .u32 0, .int .u32 0, .int .u32 0, .int .u32 0, .int .u32 0, .int .u32 0, .int .u32 0] [(0, 17, (.l 0))]⟩,
    ⟨none, .fa 0 (.r 3)⟩,
    ⟨none, .st 1 (.l 0) (.l 1)⟩] [] []) (
  .seq (.reg false [⟨none, .mov (.r 2)⟩,
    ⟨none, .ld true 4 (.r 3)⟩,
    ⟨none, .bld [.nils, .nils, .bool false, .bool false, .bool false] [(0, 1, (.l 1)), (1, 4, (.l 0))]⟩,
    ⟨none, .st 5 (.r 1) (.l 0)⟩] [] []) (
  .ret))))⟩

/-- (*vidimus/caches.Cache).none -/
def fn29 : Fn := ⟨1, 2, [0, 2], [.r 1],
  .seq (.reg false [⟨none, .mov (.v (.c (.d (.bool false))))⟩] [(1, 0)] []) (
  .seq (.reg false [⟨none, .mov (.r 0)⟩,
    ⟨none, .isz 0 false (.l 0)⟩,
    ⟨none, .mov (.l 0)⟩,
    ⟨some (0, false), .mov (.r 0)⟩,
    ⟨some (1, false), .nlc (.l 0)⟩,
    ⟨some (2, false), .fa 2 (.l 0)⟩,
    ⟨some (3, false), .ld false 1 (.l 0)⟩,
    ⟨some (4, false), .isz 4 false (.l 0)⟩,
    ⟨none, .pick (.l 5) (.v (.c (.d (.bool true)))) (.l 0)⟩,
    ⟨none, .mov (.l 0)⟩] [(1, 0)] []) (
  .ret))⟩

def fn30L0 : I := .seq (.seq (.reg false [⟨none, .mov (.r 9)⟩,
    ⟨none, .fa 4 (.r 3)⟩,
    ⟨none, .ld false 1 (.l 0)⟩,
    ⟨none, .len (.l 0)⟩,
    ⟨none, .bin .lss (.l 3) (.l 0)⟩] [(13, 0)] []) (
  .cond (.r 13) (
  .skip) (
  .exit 4))) (
  .seq (.block 5 (
  .reg true [⟨none, .mov (.r 8)⟩,
    ⟨none, .mov (.l 0)⟩,
    ⟨some (0, false), .fa 4 (.r 3)⟩,
    ⟨some (1, false), .ld false 1 (.l 0)⟩,
    ⟨some (2, false), .mov (.r 9)⟩,
    ⟨some (3, false), .ixa 34 (.l 1) (.l 0)⟩,
    ⟨some (4, false), .ld true 34 (.l 0)⟩,
    ⟨some (5, false), .ld true 34 (.r 7)⟩,
    ⟨some (6, false), .eqa false 34 (.l 1) (.l 0)⟩,
    ⟨none, .pick (.l 7) (.v (.c (.d (.bool true)))) (.l 0)⟩,
    ⟨none, .mov (.l 0)⟩] [(8, 0)] [])) (
  .reg false [⟨none, .mov (.r 9)⟩,
    ⟨none, .bin .add (.l 0) (.v (.c (.d (.int .i64 1))))⟩,
    ⟨none, .mov (.l 0)⟩] [(9, 0)] []))
def fn30L1 : I := .seq (.seq (.reg false [⟨none, .mov (.r 6)⟩,
    ⟨none, .fa 2 (.r 1)⟩,
    ⟨none, .ld false 1 (.l 0)⟩,
    ⟨none, .len (.l 0)⟩,
    ⟨none, .bin .lss (.l 3) (.l 0)⟩,
    ⟨none, .mov (.l 0)⟩,
    ⟨some (0, true), .mov (.r 6)⟩,
    ⟨some (1, true), .bin .lss (.l 0) (.v (.c (.d (.int .i64 4))))⟩,
    ⟨none, .pick (.l 2) (.l 0) (.v (.c (.d (.bool false))))⟩] [(12, 0)] []) (
  .cond (.r 12) (
  .skip) (
  .exit 2))) (
  .seq (.block 3 (
  .seq (.reg true [⟨none, .fa 2 (.r 1)⟩,
    ⟨none, .ld false 1 (.l 0)⟩,
    ⟨none, .mov (.r 6)⟩,
    ⟨none, .ixa 2 (.l 1) (.l 0)⟩,
    ⟨none, .ixp 2 1 (.l 0) (.v (.c (.d (.int .i64 0))))⟩,
    ⟨none, .ld false 1 (.l 0)⟩,
    ⟨none, .vc 61 [(.l 0)]⟩,
    ⟨none, .fa 2 (.r 1)⟩,
    ⟨none, .ld false 1 (.l 0)⟩,
    ⟨none, .mov (.r 6)⟩,
    ⟨none, .ixa 2 (.l 1) (.l 0)⟩,
    ⟨none, .ixp 2 1 (.l 0) (.v (.c (.d (.int .i64 1))))⟩,
    ⟨none, .ld false 1 (.l 0)⟩,
    ⟨none, .vc 61 [(.l 0)]⟩,
    ⟨none, .bld [.int .u8 0, .int .u32 0, .int .u32 0, .int .u32 0, .int .u32 0, .int .u32 0, .int .u32 0, .int .u32 0, .int .u32 0, .int .u32 0, .int .u32 0, .int .u32 0, .int .u32 0, .int .u32 0, .int .u32 0, .int .u32 0, .int .u32 0, .int .u8 0, .int .u32 0, .int .u32 0, .int .u32 0, .int .u32 0, .int .u32 0, .int .u32 0, .int .u32 0, .int .u32 0, .int .u32 0, .int .u32 0, .int .u32 0, .int .u32 0, .int .u32 0, .int .u32 0, .int .u32 0, .int .u32 0] [(0, 17, (.l 7)), (17, 17, (.l 0))]⟩,
    ⟨none, .pre⟩,
    ⟨none, .ini 34 (.l 1)⟩] [(7, 0)] []) (
  .seq (.reg false [⟨none, .mov (.v (.c (.d (.bool false))))⟩] [(8, 0)] []) (
  .seq (.seq (.reg false [⟨none, .mov (.v (.c (.d (.int .i64 0))))⟩] [(9, 0)] []) (
  .block 4 (
  .loop (some [1, 2, 3, 6, 7, 8, 9]) fn30L0))) (
  .seq (.reg false [⟨none, .mov (.r 8)⟩,
    ⟨none, .un .not (.l 0)⟩] [(14, 0)] []) (
  .cond (.r 14) (
  .seq (.reg false [⟨none, .fa 3 (.r 3)⟩,
    ⟨none, .st 1 (.l 0) (.v (.c (.d (.bool true))))⟩] [] []) (
  .reg false [⟨none, .fa 4 (.r 3)⟩,
    ⟨none, .ld false 1 (.l 0)⟩,
    ⟨none, .ld true 34 (.r 7)⟩,
    ⟨none, .bsl 1 34 [.int .u8 0, .int .u32 0, .int .u32 0, .int .u32 0, .int .u32 0, .int .u32 0, .int .u32 0, .int .u32 0, .int .u32 0, .int .u32 0, .int .u32 0, .int .u32 0, .int .u32 0, .int .u32 0, .int .u32 0, .int .u32 0, .int .u32 0, .int .u8 0, .int .u32 0, .int .u32 0, .int .u32 0, .int .u32 0, .int .u32 0, .int .u32 0, .int .u32 0, .int .u32 0, .int .u32 0, .int .u32 0, .int .u32 0, .int .u32 0, .int .u32 0, .int .u32 0, .int .u32 0, .int .u32 0] [(0, 34, (.l 0))]⟩,
    ⟨none, .app 34 (.l 2) (.l 0)⟩,
    ⟨none, .fa 4 (.r 3)⟩,
    ⟨none, .st 1 (.l 0) (.l 1)⟩] [] [])) (
  .skip))))))) (
  .reg false [⟨none, .mov (.r 6)⟩,
    ⟨none, .bin .add (.l 0) (.v (.c (.d (.int .i64 1))))⟩,
    ⟨none, .mov (.l 0)⟩] [(6, 0)] []))
def fn30L2 : I := .seq (.seq (.reg false [⟨none, .mov (.r 4)⟩,
    ⟨none, .fa 1 (.r 1)⟩,
    ⟨none, .ld false 1 (.l 0)⟩,
    ⟨none, .len (.l 0)⟩,
    ⟨none, .bin .lss (.l 3) (.l 0)⟩,
    ⟨none, .mov (.l 0)⟩,
    ⟨some (0, true), .mov (.r 4)⟩,
    ⟨some (1, true), .bin .lss (.l 0) (.v (.c (.d (.int .i64 4))))⟩,
    ⟨none, .pick (.l 2) (.l 0) (.v (.c (.d (.bool false))))⟩] [(10, 0)] []) (
  .cond (.r 10) (
  .skip) (
  .exit 0))) (
  .seq (.block 1 (
  .seq (.reg false [⟨none, .fa 1 (.r 1)⟩,
    ⟨none, .ld false 1 (.l 0)⟩,
    ⟨none, .mov (.r 4)⟩,
    ⟨none, .ixa 1 (.l 1) (.l 0)⟩,
    ⟨none, .ld false 1 (.l 0)⟩,
    ⟨none, .vc 32 [(.l 0)]⟩,
    ⟨none, .pre⟩,
    ⟨none, .ini 17 (.l 1)⟩] [(5, 0)] []) (
  .seq (.reg false [⟨none, .ld true 8 (.r 3)⟩,
    ⟨none, .ld true 17 (.r 5)⟩,
    ⟨none, .vc 59 [(.l 1), (.l 0)]⟩,
    ⟨none, .bin .lss (.l 0) (.v (.c (.d (.int .i64 0))))⟩] [(11, 0)] []) (
  .cond (.r 11) (
  .seq (.reg false [⟨none, .fa 1 (.r 3)⟩,
    ⟨none, .st 1 (.l 0) (.v (.c (.d (.bool true))))⟩] [] []) (
  .reg true [⟨none, .fa 2 (.r 3)⟩,
    ⟨none, .ld false 1 (.l 0)⟩,
    ⟨none, .ld true 17 (.r 5)⟩,
    ⟨none, .fa 1 (.r 1)⟩,
    ⟨none, .ld false 1 (.l 0)⟩,
    ⟨none, .mov (.r 4)⟩,
    ⟨none, .ixa 1 (.l 1) (.l 0)⟩,
    ⟨none, .ld false 1 (.l 0)⟩,
    ⟨none, .bin .quo (.l 0) (.v (.c (.d (.int .u8 7))))⟩,
    ⟨none, .vc 60 [(.l 0)]⟩,
    ⟨none, .bld [.int .u8 0, .int .u32 0, .int .u32 0, .int .u32 0, .int .u32 0, .int .u32 0, .int .u32 0, .int .u32 0, .int .u32 0, .int .u32 0, .int .u32 0, .int .u32 0, .int .u32 0, .int .u32 0, .int .u32 0, .int .u32 0, .int .u32 0, .nils] [(0, 17, (.l 7)), (17, 1, (.l 0))]⟩,
    ⟨none, .bsl 1 18 [.int .u8 0, .int .u32 0, .int .u32 0, .int .u32 0, .int .u32 0, .int .u32 0, .int .u32 0, .int .u32 0, .int .u32 0, .int .u32 0, .int .u32 0, .int .u32 0, .int .u32 0, .int .u32 0, .int .u32 0, .int .u32 0, .int .u32 0, .nils] [(0, 18, (.l 0))]⟩,
    ⟨none, .app 18 (.l 10) (.l 0)⟩,
    ⟨none, .fa 2 (.r 3)⟩,
    ⟨none, .st 1 (.l 0) (.l 1)⟩] [] [])) (
  .skip))))) (
  .reg false [⟨none, .mov (.r 4)⟩,
    ⟨none, .bin .add (.l 0) (.v (.c (.d (.int .i64 1))))⟩,
    ⟨none, .mov (.l 0)⟩] [(4, 0)] []))
/-- (vidimus/vidimuslaw34.R).Of -/
def fn30 : Fn := ⟨1, 15, [0, 1, 2, 3, 4, 5, 6, 7, 8, 9, 33, 45, 69, 91, 105], [.cell 2 8 true],
  .seq (.reg false [⟨none, .box (.r 0)⟩,
    ⟨none, .new [.bool false, .bool false, .nils, .bool false, .nils, .int .i64 0, .int .i64 0, .int .i64 0]⟩] [(1, 1), (2, 0)] []) (
  .seq (.reg true [⟨none, .fa 0 (.r 1)⟩,
    ⟨none, .ld false 1 (.l 0)⟩,
    ⟨none, .fa 3 (.r 1)⟩,
    ⟨none, .ixp 3 1 (.l 0) (.v (.c (.d (.int .i64 0))))⟩,
    ⟨none, .ld false 1 (.l 0)⟩,
    ⟨none, .vc 58 [(.l 0)]⟩,
    ⟨none, .fa 3 (.r 1)⟩,
    ⟨none, .ixp 3 1 (.l 0) (.v (.c (.d (.int .i64 1))))⟩,
    ⟨none, .ld false 1 (.l 0)⟩,
    ⟨none, .vc 58 [(.l 0)]⟩,
    ⟨none, .fa 3 (.r 1)⟩,
    ⟨none, .ixp 3 1 (.l 0) (.v (.c (.d (.int .i64 2))))⟩,
    ⟨none, .ld false 1 (.l 0)⟩,
    ⟨none, .vc 58 [(.l 0)]⟩,
    ⟨none, .bld [.bool false, .bool false, .nils, .bool false, .nils, .int .i64 0, .int .i64 0, .int .i64 0] [(0, 1, (.l 12)), (5, 1, (.l 8)), (6, 1, (.l 4)), (7, 1, (.l 0))]⟩,
    ⟨none, .pre⟩,
    ⟨none, .ini 8 (.l 1)⟩] [(3, 0)] []) (
  .seq (.seq (.reg false [⟨none, .mov (.v (.c (.d (.int .i64 0))))⟩] [(4, 0)] []) (
  .block 0 (
  .seq (.fresh 3 (some 2) 18) (
  .loop (some [1, 2, 3, 4]) fn30L2)))) (
  .seq (.seq (.reg false [⟨none, .mov (.v (.c (.d (.int .i64 0))))⟩] [(6, 0)] []) (
  .block 2 (
  .seq (.fresh 3 (some 4) 34) (
  .loop (some [1, 2, 3, 6]) fn30L1)))) (
  .seq (.reg false [⟨none, .ld true 8 (.r 3)⟩,
    ⟨none, .st 8 (.r 2) (.l 0)⟩] [] []) (
  .ret)))))⟩

/-- (*vidimus/caches.Cache).find -/
def fn33 : Fn := ⟨3, 7, [0, 1, 2, 3, 4, 5, 6], [.r 6],
  .seq (.reg false [⟨none, .box (.r 0)⟩,
    ⟨none, .box (.r 1)⟩,
    ⟨none, .box (.r 2)⟩,
    ⟨none, .mov (.v (.c (.d (.int .i64 0))))⟩] [(3, 3), (4, 2), (5, 1), (6, 0)] []) (
  .seq (.reg false [⟨none, .ld false 1 (.r 3)⟩,
    ⟨none, .nlc (.l 0)⟩,
    ⟨none, .fa 1 (.l 0)⟩,
    ⟨none, .ld false 1 (.l 0)⟩,
    ⟨none, .mkf 66 [] [(.r 3), (.r 4), (.r 5)]⟩,
    ⟨none, .hc (.v (.c (.d (.fn 65 [] [])))) [(.l 1), (.l 0)]⟩,
    ⟨none, .mov (.l 0)⟩] [(6, 0)] []) (
  .ret))⟩

def fn35L0 : I := .seq (.reg false [⟨none, .bin .lss (.r 15) (.r 14)⟩] [(16, 0)] []) (
  .seq (.cond (.r 16) (
  .skip) (
  .exit 4)) (
  .seq (.block 5 (
  .seq (.reg false [⟨none, .mov (.r 15)⟩,
    ⟨none, .mov (.l 0)⟩] [(7, 0)] []) (
  .regk true [⟨none, .fa 5 (.r 3)⟩,
    ⟨none, .fa 4 (.l 0)⟩,
    ⟨none, .ld false 1 (.l 0)⟩,
    ⟨none, .mov (.r 7)⟩,
    ⟨none, .fa 5 (.r 3)⟩,
    ⟨none, .fa 4 (.l 0)⟩,
    ⟨none, .ld false 1 (.l 0)⟩,
    ⟨none, .mov (.r 7)⟩,
    ⟨none, .ixa 18 (.l 1) (.l 0)⟩,
    ⟨none, .fa 17 (.l 0)⟩,
    ⟨none, .ld false 1 (.l 0)⟩,
    ⟨none, .hc (.v (.c (.d (.fn 71 [] [])))) [(.l 0)]⟩,
    ⟨none, .ixa 18 (.l 9) (.l 8)⟩,
    ⟨none, .fa 17 (.l 0)⟩,
    ⟨none, .st 1 (.l 0) (.l 2)⟩] [] [3] []))) (
  .reg false [⟨none, .bin .add (.r 15) (.v (.c (.d (.int .i64 1))))⟩,
    ⟨none, .mov (.l 0)⟩] [(15, 0)] [])))
def fn35L1 : I := .seq (.reg false [⟨none, .bin .lss (.r 12) (.r 11)⟩] [(13, 0)] []) (
  .seq (.cond (.r 13) (
  .skip) (
  .exit 2)) (
  .seq (.block 3 (
  .seq (.reg false [⟨none, .mov (.r 12)⟩,
    ⟨none, .mov (.l 0)⟩] [(6, 0)] []) (
  .regk true [⟨none, .mov (.r 5)⟩,
    ⟨none, .nlc (.l 0)⟩,
    ⟨none, .fa 2 (.l 0)⟩,
    ⟨none, .ld false 1 (.l 0)⟩,
    ⟨none, .mov (.r 6)⟩,
    ⟨none, .mov (.r 5)⟩,
    ⟨none, .nlc (.l 0)⟩,
    ⟨none, .fa 2 (.l 0)⟩,
    ⟨none, .ld false 1 (.l 0)⟩,
    ⟨none, .mov (.r 6)⟩,
    ⟨none, .ixa 18 (.l 1) (.l 0)⟩,
    ⟨none, .fa 17 (.l 0)⟩,
    ⟨none, .ld false 1 (.l 0)⟩,
    ⟨none, .hc (.v (.c (.d (.fn 71 [] [])))) [(.l 0)]⟩,
    ⟨none, .ixa 18 (.l 10) (.l 9)⟩,
    ⟨none, .fa 17 (.l 0)⟩,
    ⟨none, .st 1 (.l 0) (.l 2)⟩] [] [5] []))) (
  .reg false [⟨none, .bin .add (.r 12) (.v (.c (.d (.int .i64 1))))⟩,
    ⟨none, .mov (.l 0)⟩] [(12, 0)] [])))
def fn35L2 : I := .seq (.reg false [⟨none, .bin .lss (.r 9) (.r 8)⟩] [(10, 0)] []) (
  .seq (.cond (.r 10) (
  .skip) (
  .exit 0)) (
  .seq (.block 1 (
  .seq (.reg false [⟨none, .mov (.r 9)⟩,
    ⟨none, .mov (.l 0)⟩] [(4, 0)] []) (
  .seq (.reg false [⟨none, .fa 0 (.r 3)⟩,
    ⟨none, .ld false 1 (.l 0)⟩,
    ⟨none, .mov (.r 4)⟩,
    ⟨none, .ixa 8 (.l 1) (.l 0)⟩,
    ⟨none, .mov (.l 0)⟩] [(5, 0)] []) (
  .seq (.regk true [⟨none, .mov (.r 5)⟩,
    ⟨none, .mov (.r 5)⟩,
    ⟨none, .mov (.r 5)⟩,
    ⟨none, .nlc (.l 0)⟩,
    ⟨none, .fa 2 (.l 0)⟩,
    ⟨none, .ld false 1 (.l 0)⟩,
    ⟨none, .hc (.v (.c (.d (.fn 69 [] [])))) [(.l 0)]⟩,
    ⟨none, .mov (.r 5)⟩,
    ⟨none, .nlc (.l 0)⟩,
    ⟨none, .fa 4 (.l 0)⟩,
    ⟨none, .ld false 1 (.l 0)⟩,
    ⟨none, .hc (.v (.c (.d (.fn 70 [] [])))) [(.l 0)]⟩,
    ⟨none, .nlc (.l 11)⟩,
    ⟨none, .fa 2 (.l 0)⟩,
    ⟨none, .st 1 (.l 0) (.l 7)⟩,
    ⟨none, .nlc (.l 13)⟩,
    ⟨none, .fa 4 (.l 0)⟩,
    ⟨none, .st 1 (.l 0) (.l 5)⟩] [] [5] []) (
  .seq (.reg false [⟨none, .mov (.r 5)⟩,
    ⟨none, .nlc (.l 0)⟩,
    ⟨none, .fa 2 (.l 0)⟩,
    ⟨none, .ld false 1 (.l 0)⟩,
    ⟨none, .len (.l 0)⟩,
    ⟨none, .mov (.v (.c (.d (.int .i64 0))))⟩] [(11, 1), (12, 0)] []) (
  .block 2 (
  .loop (some [1, 2, 3, 5, 8, 9, 11, 12]) fn35L1))))))) (
  .reg false [⟨none, .bin .add (.r 9) (.v (.c (.d (.int .i64 1))))⟩,
    ⟨none, .mov (.l 0)⟩] [(9, 0)] [])))
/-- (vidimus/caches.kept).copied -/
def fn35 : Fn := ⟨1, 17, [0, 1, 2, 3, 4, 5, 6, 7, 18, 19, 20, 46, 47, 48, 89, 90, 91], [.cell 2 10 true],
  .seq (.reg false [⟨none, .box (.r 0)⟩,
    ⟨none, .new [.nils, .nils, .bool false, .bool false, .bool false, .bool false, .int .u8 0, .int .i64 0, .nils, .nils]⟩] [(1, 1), (2, 0)] []) (
  .seq (.regk true [⟨none, .fa 0 (.r 1)⟩,
    ⟨none, .ld false 1 (.l 0)⟩,
    ⟨none, .hc (.v (.c (.d (.fn 68 [] [])))) [(.l 0)]⟩,
    ⟨none, .fa 1 (.r 1)⟩,
    ⟨none, .ld true 4 (.l 0)⟩,
    ⟨none, .fa 5 (.r 1)⟩,
    ⟨none, .ld true 5 (.l 0)⟩,
    ⟨none, .bld [.nils, .nils, .bool false, .bool false, .bool false, .bool false, .int .u8 0, .int .i64 0, .nils, .nils] [(0, 1, (.l 4)), (1, 4, (.l 2)), (5, 5, (.l 0))]⟩,
    ⟨none, .pre⟩,
    ⟨none, .ini 10 (.l 1)⟩] [(3, 0)] [1] []) (
  .seq (.seq (.reg false [⟨none, .fa 0 (.r 3)⟩,
    ⟨none, .ld false 1 (.l 0)⟩,
    ⟨none, .len (.l 0)⟩,
    ⟨none, .mov (.v (.c (.d (.int .i64 0))))⟩] [(8, 1), (9, 0)] []) (
  .block 0 (
  .loop (some [1, 2, 3, 8, 9]) fn35L2))) (
  .seq (.reg false [⟨none, .fa 1 (.r 1)⟩,
    ⟨none, .fa 0 (.l 0)⟩,
    ⟨none, .ld false 1 (.l 0)⟩,
    ⟨none, .hc (.v (.c (.d (.fn 72 [] [])))) [(.l 0)]⟩,
    ⟨none, .fa 1 (.r 3)⟩,
    ⟨none, .fa 0 (.l 0)⟩,
    ⟨none, .st 1 (.l 0) (.l 2)⟩] [] []) (
  .seq (.regk true [⟨none, .fa 5 (.r 1)⟩,
    ⟨none, .fa 3 (.l 0)⟩,
    ⟨none, .ld false 1 (.l 0)⟩,
    ⟨none, .hc (.v (.c (.d (.fn 72 [] [])))) [(.l 0)]⟩,
    ⟨none, .fa 5 (.r 1)⟩,
    ⟨none, .fa 4 (.l 0)⟩,
    ⟨none, .ld false 1 (.l 0)⟩,
    ⟨none, .hc (.v (.c (.d (.fn 73 [] [])))) [(.l 0)]⟩,
    ⟨none, .fa 5 (.r 3)⟩,
    ⟨none, .fa 3 (.l 0)⟩,
    ⟨none, .st 1 (.l 0) (.l 6)⟩,
    ⟨none, .fa 5 (.r 3)⟩,
    ⟨none, .fa 4 (.l 0)⟩,
    ⟨none, .st 1 (.l 0) (.l 5)⟩] [] [1] []) (
  .seq (.seq (.reg false [⟨none, .fa 5 (.r 3)⟩,
    ⟨none, .fa 4 (.l 0)⟩,
    ⟨none, .ld false 1 (.l 0)⟩,
    ⟨none, .len (.l 0)⟩,
    ⟨none, .mov (.v (.c (.d (.int .i64 0))))⟩] [(14, 1), (15, 0)] []) (
  .block 4 (
  .loop (some [2, 3, 14, 15]) fn35L0))) (
  .seq (.reg false [⟨none, .ld true 10 (.r 3)⟩,
    ⟨none, .st 10 (.r 2) (.l 0)⟩] [] []) (
  .ret)))))))⟩

/-- vidimus/validates.Verdict -/
def fn36 : Fn := ⟨2, 5, [0, 1, 3, 4, 5], [.cell 3 5 true, .r 4],
  .seq (.reg false [⟨none, .box (.r 1)⟩,
    ⟨none, .new [.bool false, .int .u8 0, .int .i64 0, .nils, .nils]⟩,
    ⟨none, .mov (.v (.c (.d (.int .i64 0))))⟩] [(2, 2), (3, 1), (4, 0)] []) (
  .seq (.reg false [⟨none, .bld [] []⟩,
    ⟨none, .mkt 165 (.l 0)⟩,
    ⟨none, .mov (.r 0)⟩,
    ⟨none, .ld true 4 (.r 2)⟩,
    ⟨none, .vc 74 [(.l 2), (.l 1), (.l 0)]⟩,
    ⟨none, .ext (.l 0) 0⟩,
    ⟨none, .ext (.l 1) 1⟩,
    ⟨none, .st 5 (.r 3) (.l 1)⟩,
    ⟨none, .mov (.l 1)⟩] [(4, 0)] []) (
  .ret))⟩

/-- vidimus/vidimuslaw34.limit -/
def fn58 : Fn := ⟨1, 2, [0, 2], [.r 1],
  .seq (.reg false [⟨none, .mov (.v (.c (.d (.int .i64 0))))⟩] [(1, 0)] []) (
  .seq (.reg false [⟨none, .mov (.r 0)⟩,
    ⟨none, .bin .rem (.l 0) (.v (.c (.d (.int .u8 4))))⟩,
    ⟨none, .cvi .i64 (.l 0)⟩,
    ⟨none, .bin .sub (.l 0) (.v (.c (.d (.int .i64 1))))⟩,
    ⟨none, .mov (.l 0)⟩] [(1, 0)] []) (
  .ret))⟩

def fn65L0 : I := .seq (.reg false [⟨none, .bin .lss (.r 5) (.r 4)⟩] [(6, 0)] []) (
  .seq (.cond (.r 6) (
  .skip) (
  .exit 0)) (
  .seq (.block 1 (
  .seq (.reg false [⟨none, .mov (.r 5)⟩,
    ⟨none, .mov (.l 0)⟩] [(3, 0)] []) (
  .seq (.reg false [⟨none, .mov (.r 1)⟩,
    ⟨none, .mov (.r 0)⟩,
    ⟨none, .mov (.r 3)⟩,
    ⟨none, .ixa 1 (.l 1) (.l 0)⟩,
    ⟨none, .ld false 1 (.l 0)⟩,
    ⟨none, .hc (.l 4) [(.l 0)]⟩] [(7, 0)] []) (
  .cond (.r 7) (
  .seq (.reg false [⟨none, .mov (.r 3)⟩,
    ⟨none, .mov (.l 0)⟩] [(2, 0)] []) (
  .ret)) (
  .skip))))) (
  .reg false [⟨none, .bin .add (.r 5) (.v (.c (.d (.int .i64 1))))⟩,
    ⟨none, .mov (.l 0)⟩] [(5, 0)] [])))
/-- slices.IndexFunc[[]int,int] -/
def fn65 : Fn := ⟨2, 8, [0, 1, 4, 5, 7, 8, 9, 16], [.r 2],
  .seq (.reg false [⟨none, .mov (.v (.c (.d (.int .i64 0))))⟩] [(2, 0)] []) (
  .seq (.seq (.reg false [⟨none, .mov (.r 0)⟩,
    ⟨none, .len (.l 0)⟩,
    ⟨none, .mov (.v (.c (.d (.int .i64 0))))⟩] [(4, 1), (5, 0)] []) (
  .block 0 (
  .loop (some [0, 1, 4, 5]) fn65L0))) (
  .seq (.reg false [⟨none, .mov (.v (.c (.d (.int .i64 (-1)))))⟩] [(2, 0)] []) (
  .ret)))⟩

/-- (*vidimus/caches.Cache).find$1 -/
def fn66 : Fn := ⟨4, 5, [0, 1, 2, 3, 5], [.r 4],
  .seq (.reg false [⟨none, .mov (.v (.c (.d (.bool false))))⟩] [(4, 0)] []) (
  .seq (.reg true [⟨none, .ld false 1 (.r 1)⟩,
    ⟨none, .nlc (.l 0)⟩,
    ⟨none, .fa 0 (.l 0)⟩,
    ⟨none, .ld false 1 (.l 0)⟩,
    ⟨none, .mov (.r 0)⟩,
    ⟨none, .ixa 10 (.l 1) (.l 0)⟩,
    ⟨none, .ld true 10 (.l 0)⟩,
    ⟨none, .ld false 1 (.r 2)⟩,
    ⟨none, .ld true 4 (.r 3)⟩,
    ⟨none, .vc 67 [(.l 2), (.l 1), (.l 0)]⟩,
    ⟨none, .mov (.l 0)⟩] [(4, 0)] []) (
  .ret))⟩

/-- (vidimus/caches.kept).is -/
def fn67 : Fn := ⟨3, 6, [0, 1, 2, 3, 5, 6], [.r 5],
  .seq (.reg false [⟨none, .box (.r 0)⟩,
    ⟨none, .box (.r 2)⟩,
    ⟨none, .mov (.v (.c (.d (.bool false))))⟩] [(3, 2), (4, 1), (5, 0)] []) (
  .seq (.reg false [⟨none, .fa 1 (.r 3)⟩,
    ⟨none, .fa 1 (.l 0)⟩,
    ⟨none, .ld false 1 (.l 0)⟩,
    ⟨none, .fa 1 (.r 4)⟩,
    ⟨none, .ld false 1 (.l 0)⟩,
    ⟨none, .beq false (.l 2) (.l 0)⟩,
    ⟨none, .mov (.l 0)⟩,
    ⟨some (0, true), .fa 1 (.r 3)⟩,
    ⟨some (1, true), .fa 2 (.l 0)⟩,
    ⟨some (2, true), .ld false 1 (.l 0)⟩,
    ⟨some (3, true), .fa 2 (.r 4)⟩,
    ⟨some (4, true), .ld false 1 (.l 0)⟩,
    ⟨some (5, true), .beq false (.l 2) (.l 0)⟩,
    ⟨none, .pick (.l 6) (.l 0) (.v (.c (.d (.bool false))))⟩,
    ⟨none, .mov (.l 0)⟩,
    ⟨some (0, true), .fa 1 (.r 3)⟩,
    ⟨some (1, true), .fa 3 (.l 0)⟩,
    ⟨some (2, true), .ld false 1 (.l 0)⟩,
    ⟨some (3, true), .fa 3 (.r 4)⟩,
    ⟨some (4, true), .ld false 1 (.l 0)⟩,
    ⟨some (5, true), .beq false (.l 2) (.l 0)⟩,
    ⟨none, .pick (.l 6) (.l 0) (.v (.c (.d (.bool false))))⟩,
    ⟨none, .mov (.l 0)⟩,
    ⟨some (0, true), .fa 1 (.r 3)⟩,
    ⟨some (1, true), .fa 0 (.l 0)⟩,
    ⟨some (2, true), .ld false 1 (.l 0)⟩,
    ⟨some (3, true), .fa 0 (.r 4)⟩,
    ⟨some (4, true), .ld false 1 (.l 0)⟩,
    ⟨some (5, true), .vc 85 [(.l 2), (.l 0)]⟩,
    ⟨none, .pick (.l 6) (.l 0) (.v (.c (.d (.bool false))))⟩,
    ⟨none, .mov (.l 0)⟩,
    ⟨some (0, true), .fa 0 (.r 3)⟩,
    ⟨some (1, true), .ld false 1 (.l 0)⟩,
    ⟨some (2, true), .mov (.r 1)⟩,
    ⟨some (3, true), .vc 86 [(.l 1), (.l 0), (.v (.c (.d (.fn 87 [] []))))]⟩,
    ⟨none, .pick (.l 4) (.l 0) (.v (.c (.d (.bool false))))⟩,
    ⟨none, .mov (.l 0)⟩] [(5, 0)] []) (
  .ret))⟩

/-- vidimus/caches.exact[vidimus/api.Record] -/
def fn68 : Fn := ⟨1, 4, [0, 2, 3, 6], [.r 1],
  .seq (.reg false [⟨none, .mov (.v (.c (.d (.nils))))⟩] [(1, 0)] []) (
  .seq (.seq (.reg false [⟨none, .mov (.r 0)⟩,
    ⟨none, .len (.l 0)⟩,
    ⟨none, .bin .eql (.l 0) (.v (.c (.d (.int .i64 0))))⟩] [(3, 0)] []) (
  .cond (.r 3) (
  .seq (.reg false [⟨none, .mov (.v (.c (.d (.nils))))⟩] [(1, 0)] []) (
  .ret)) (
  .skip))) (
  .seq (.reg false [⟨none, .mov (.r 0)⟩,
    ⟨none, .len (.l 0)⟩,
    ⟨none, .mks 8 88 [.bool false, .bool false, .nils, .bool false, .nils, .int .i64 0, .int .i64 0, .int .i64 0] (.l 0) (.l 0)⟩,
    ⟨none, .mov (.l 0)⟩] [(2, 0)] []) (
  .seq (.reg false [⟨none, .mov (.r 2)⟩,
    ⟨none, .mov (.r 0)⟩,
    ⟨none, .cpy 8 (.l 1) (.l 0)⟩] [] []) (
  .seq (.reg false [⟨none, .mov (.r 2)⟩,
    ⟨none, .mov (.l 0)⟩] [(1, 0)] []) (
  .ret)))))⟩

/-- vidimus/caches.exact[vidimus/api.Policy] -/
def fn69 : Fn := ⟨1, 4, [0, 2, 3, 6], [.r 1],
  .seq (.reg false [⟨none, .mov (.v (.c (.d (.nils))))⟩] [(1, 0)] []) (
  .seq (.seq (.reg false [⟨none, .mov (.r 0)⟩,
    ⟨none, .len (.l 0)⟩,
    ⟨none, .bin .eql (.l 0) (.v (.c (.d (.int .i64 0))))⟩] [(3, 0)] []) (
  .cond (.r 3) (
  .seq (.reg false [⟨none, .mov (.v (.c (.d (.nils))))⟩] [(1, 0)] []) (
  .ret)) (
  .skip))) (
  .seq (.reg false [⟨none, .mov (.r 0)⟩,
    ⟨none, .len (.l 0)⟩,
    ⟨none, .mks 18 96 [.int .u8 0, .int .u32 0, .int .u32 0, .int .u32 0, .int .u32 0, .int .u32 0, .int .u32 0, .int .u32 0, .int .u32 0, .int .u32 0, .int .u32 0, .int .u32 0, .int .u32 0, .int .u32 0, .int .u32 0, .int .u32 0, .int .u32 0, .nils] (.l 0) (.l 0)⟩,
    ⟨none, .mov (.l 0)⟩] [(2, 0)] []) (
  .seq (.reg false [⟨none, .mov (.r 2)⟩,
    ⟨none, .mov (.r 0)⟩,
    ⟨none, .cpy 18 (.l 1) (.l 0)⟩] [] []) (
  .seq (.reg false [⟨none, .mov (.r 2)⟩,
    ⟨none, .mov (.l 0)⟩] [(1, 0)] []) (
  .ret)))))⟩

/-- vidimus/caches.exact[vidimus/api.Mapping] -/
def fn70 : Fn := ⟨1, 4, [0, 2, 3, 6], [.r 1],
  .seq (.reg false [⟨none, .mov (.v (.c (.d (.nils))))⟩] [(1, 0)] []) (
  .seq (.seq (.reg false [⟨none, .mov (.r 0)⟩,
    ⟨none, .len (.l 0)⟩,
    ⟨none, .bin .eql (.l 0) (.v (.c (.d (.int .i64 0))))⟩] [(3, 0)] []) (
  .cond (.r 3) (
  .seq (.reg false [⟨none, .mov (.v (.c (.d (.nils))))⟩] [(1, 0)] []) (
  .ret)) (
  .skip))) (
  .seq (.reg false [⟨none, .mov (.r 0)⟩,
    ⟨none, .len (.l 0)⟩,
    ⟨none, .mks 34 136 [.int .u8 0, .int .u32 0, .int .u32 0, .int .u32 0, .int .u32 0, .int .u32 0, .int .u32 0, .int .u32 0, .int .u32 0, .int .u32 0, .int .u32 0, .int .u32 0, .int .u32 0, .int .u32 0, .int .u32 0, .int .u32 0, .int .u32 0, .int .u8 0, .int .u32 0, .int .u32 0, .int .u32 0, .int .u32 0, .int .u32 0, .int .u32 0, .int .u32 0, .int .u32 0, .int .u32 0, .int .u32 0, .int .u32 0, .int .u32 0, .int .u32 0, .int .u32 0, .int .u32 0, .int .u32 0] (.l 0) (.l 0)⟩,
    ⟨none, .mov (.l 0)⟩] [(2, 0)] []) (
  .seq (.reg false [⟨none, .mov (.r 2)⟩,
    ⟨none, .mov (.r 0)⟩,
    ⟨none, .cpy 34 (.l 1) (.l 0)⟩] [] []) (
  .seq (.reg false [⟨none, .mov (.r 2)⟩,
    ⟨none, .mov (.l 0)⟩] [(1, 0)] []) (
  .ret)))))⟩

/-- vidimus/caches.exact[vidimus/api.OID] -/
def fn72 : Fn := ⟨1, 4, [0, 2, 3, 6], [.r 1],
  .seq (.reg false [⟨none, .mov (.v (.c (.d (.nils))))⟩] [(1, 0)] []) (
  .seq (.seq (.reg false [⟨none, .mov (.r 0)⟩,
    ⟨none, .len (.l 0)⟩,
    ⟨none, .bin .eql (.l 0) (.v (.c (.d (.int .i64 0))))⟩] [(3, 0)] []) (
  .cond (.r 3) (
  .seq (.reg false [⟨none, .mov (.v (.c (.d (.nils))))⟩] [(1, 0)] []) (
  .ret)) (
  .skip))) (
  .seq (.reg false [⟨none, .mov (.r 0)⟩,
    ⟨none, .len (.l 0)⟩,
    ⟨none, .mks 17 68 [.int .u8 0, .int .u32 0, .int .u32 0, .int .u32 0, .int .u32 0, .int .u32 0, .int .u32 0, .int .u32 0, .int .u32 0, .int .u32 0, .int .u32 0, .int .u32 0, .int .u32 0, .int .u32 0, .int .u32 0, .int .u32 0, .int .u32 0] (.l 0) (.l 0)⟩,
    ⟨none, .mov (.l 0)⟩] [(2, 0)] []) (
  .seq (.reg false [⟨none, .mov (.r 2)⟩,
    ⟨none, .mov (.r 0)⟩,
    ⟨none, .cpy 17 (.l 1) (.l 0)⟩] [] []) (
  .seq (.reg false [⟨none, .mov (.r 2)⟩,
    ⟨none, .mov (.l 0)⟩] [(1, 0)] []) (
  .ret)))))⟩

/-- vidimus/caches.exact[vidimus/api.Grant] -/
def fn73 : Fn := ⟨1, 4, [0, 2, 3, 6], [.r 1],
  .seq (.reg false [⟨none, .mov (.v (.c (.d (.nils))))⟩] [(1, 0)] []) (
  .seq (.seq (.reg false [⟨none, .mov (.r 0)⟩,
    ⟨none, .len (.l 0)⟩,
    ⟨none, .bin .eql (.l 0) (.v (.c (.d (.int .i64 0))))⟩] [(3, 0)] []) (
  .cond (.r 3) (
  .seq (.reg false [⟨none, .mov (.v (.c (.d (.nils))))⟩] [(1, 0)] []) (
  .ret)) (
  .skip))) (
  .seq (.reg false [⟨none, .mov (.r 0)⟩,
    ⟨none, .len (.l 0)⟩,
    ⟨none, .mks 18 96 [.int .u8 0, .int .u32 0, .int .u32 0, .int .u32 0, .int .u32 0, .int .u32 0, .int .u32 0, .int .u32 0, .int .u32 0, .int .u32 0, .int .u32 0, .int .u32 0, .int .u32 0, .int .u32 0, .int .u32 0, .int .u32 0, .int .u32 0, .nils] (.l 0) (.l 0)⟩,
    ⟨none, .mov (.l 0)⟩] [(2, 0)] []) (
  .seq (.reg false [⟨none, .mov (.r 2)⟩,
    ⟨none, .mov (.r 0)⟩,
    ⟨none, .cpy 18 (.l 1) (.l 0)⟩] [] []) (
  .seq (.reg false [⟨none, .mov (.r 2)⟩,
    ⟨none, .mov (.l 0)⟩] [(1, 0)] []) (
  .ret)))))⟩

/-- vidimus/validates.validate -/
def fn74 : Fn := ⟨3, 15, [0, 1, 2, 5, 6, 7, 8, 9, 10, 14, 20, 23, 25, 26, 34], [.cell 4 5 true, .r 5],
  .seq (.reg false [⟨none, .box (.r 2)⟩,
    ⟨none, .new [.bool false, .int .u8 0, .int .i64 0, .nils, .nils]⟩,
    ⟨none, .mov (.v (.c (.d (.int .i64 0))))⟩] [(3, 2), (4, 1), (5, 0)] []) (
  .seq (.seq (.reg false [⟨none, .mov (.r 1)⟩,
    ⟨none, .vc 91 [(.l 0)]⟩,
    ⟨none, .mov (.l 0)⟩] [(6, 0)] []) (
  .seq (.reg false [⟨none, .mov (.r 6)⟩,
    ⟨none, .bin .neq (.l 0) (.v (.c (.d (.int .i64 0))))⟩] [(9, 0)] []) (
  .cond (.r 9) (
  .seq (.reg false [⟨none, .bld [.bool false, .int .u8 0, .int .i64 0, .nils, .nils] []⟩,
    ⟨none, .mov (.r 6)⟩,
    ⟨none, .st 5 (.r 4) (.l 1)⟩,
    ⟨none, .mov (.l 1)⟩] [(5, 0)] []) (
  .ret)) (
  .skip)))) (
  .seq (.seq (.reg false [⟨none, .ld true 4 (.r 3)⟩,
    ⟨none, .vc 79 [(.l 0)]⟩,
    ⟨none, .mov (.l 0)⟩] [(7, 0)] []) (
  .seq (.reg false [⟨none, .mov (.r 7)⟩,
    ⟨none, .bin .neq (.l 0) (.v (.c (.d (.int .i64 0))))⟩] [(10, 0)] []) (
  .cond (.r 10) (
  .seq (.reg false [⟨none, .bld [.bool false, .int .u8 0, .int .i64 0, .nils, .nils] []⟩,
    ⟨none, .mov (.r 7)⟩,
    ⟨none, .st 5 (.r 4) (.l 1)⟩,
    ⟨none, .mov (.l 1)⟩] [(5, 0)] []) (
  .ret)) (
  .skip)))) (
  .seq (.seq (.reg false [⟨none, .mov (.r 0)⟩] [(11, 0)] []) (
  .block 0 (
  .seq (.reg false [⟨none, .tas 183 1 true true (.agg [.d (.int .i64 0)]) (.r 11)⟩,
    ⟨none, .ext (.l 0) 1⟩,
    ⟨none, .ext (.l 1) 0⟩] [(12, 1), (13, 0)] []) (
  .cond (.r 12) (
  .seq (.reg false [⟨none, .pre⟩,
    ⟨none, .ini 1 (.r 13)⟩] [(8, 0)] []) (
  .seq (.reg false [⟨none, .fa 0 (.r 8)⟩,
    ⟨none, .ld false 1 (.l 0)⟩,
    ⟨none, .bin .lss (.l 0) (.v (.c (.d (.int .i64 1))))⟩,
    ⟨none, .mov (.l 0)⟩,
    ⟨some (0, false), .fa 0 (.r 8)⟩,
    ⟨some (1, false), .ld false 1 (.l 0)⟩,
    ⟨some (2, false), .bin .gtr (.l 0) (.v (.c (.d (.int .i64 65536))))⟩,
    ⟨none, .pick (.l 3) (.v (.c (.d (.bool true)))) (.l 0)⟩] [(14, 0)] []) (
  .cond (.r 14) (
  .seq (.reg false [⟨none, .bld [.bool false, .int .u8 0, .int .i64 0, .nils, .nils] []⟩,
    ⟨none, .st 5 (.r 4) (.l 0)⟩,
    ⟨none, .mov (.v (.c (.d (.int .i64 1))))⟩] [(5, 0)] []) (
  .ret)) (
  .skip)))) (
  .skip))))) (
  .seq (.reg false [⟨none, .mov (.r 0)⟩,
    ⟨none, .mov (.r 1)⟩,
    ⟨none, .ld true 4 (.r 3)⟩,
    ⟨none, .ivc [(165, 214), (183, 340)] (.l 2) [(.l 1), (.l 0)]⟩,
    ⟨none, .ext (.l 0) 0⟩,
    ⟨none, .ext (.l 1) 1⟩,
    ⟨none, .st 5 (.r 4) (.l 1)⟩,
    ⟨none, .mov (.l 1)⟩] [(5, 0)] []) (
  .ret)))))⟩

/-- vidimus/records.Inputs -/
def fn79 : Fn := ⟨1, 3, [0, 1, 2], [.r 2],
  .seq (.reg false [⟨none, .box (.r 0)⟩,
    ⟨none, .mov (.v (.c (.d (.int .i64 0))))⟩] [(1, 1), (2, 0)] []) (
  .seq (.reg false [⟨none, .fa 0 (.r 1)⟩,
    ⟨none, .ld false 1 (.l 0)⟩,
    ⟨none, .vc 93 [(.l 0)]⟩,
    ⟨none, .mov (.l 0)⟩] [(2, 0)] []) (
  .ret))⟩

def fn84L0 : I := .seq (.reg false [⟨none, .bin .lss (.r 17) (.r 16)⟩] [(18, 0)] []) (
  .seq (.cond (.r 18) (
  .skip) (
  .exit 2)) (
  .seq (.block 3 (
  .seq (.reg false [⟨none, .mov (.r 17)⟩,
    ⟨none, .ixa 34 (.r 15) (.r 17)⟩,
    ⟨none, .ld true 34 (.l 0)⟩,
    ⟨none, .pre⟩,
    ⟨none, .mov (.l 3)⟩,
    ⟨none, .ini 34 (.l 2)⟩] [(6, 1), (7, 0)] []) (
  .seq (.seq (.reg false [⟨none, .fa 0 (.r 7)⟩,
    ⟨none, .ld true 17 (.l 0)⟩,
    ⟨none, .vc 98 [(.l 0)]⟩,
    ⟨none, .mov (.l 0)⟩] [(8, 0)] []) (
  .seq (.reg false [⟨none, .mov (.r 8)⟩,
    ⟨none, .bin .neq (.l 0) (.v (.c (.d (.int .i64 0))))⟩] [(19, 0)] []) (
  .cond (.r 19) (
  .seq (.reg false [⟨none, .mov (.r 8)⟩,
    ⟨none, .mov (.l 0)⟩] [(2, 0)] []) (
  .ret)) (
  .skip)))) (
  .seq (.seq (.reg false [⟨none, .fa 17 (.r 7)⟩,
    ⟨none, .ld true 17 (.l 0)⟩,
    ⟨none, .vc 98 [(.l 0)]⟩,
    ⟨none, .mov (.l 0)⟩] [(9, 0)] []) (
  .seq (.reg false [⟨none, .mov (.r 9)⟩,
    ⟨none, .bin .neq (.l 0) (.v (.c (.d (.int .i64 0))))⟩] [(20, 0)] []) (
  .cond (.r 20) (
  .seq (.reg false [⟨none, .mov (.r 9)⟩,
    ⟨none, .mov (.l 0)⟩] [(2, 0)] []) (
  .ret)) (
  .skip)))) (
  .seq (.reg true [⟨none, .fa 4 (.r 1)⟩,
    ⟨none, .ld false 1 (.l 0)⟩,
    ⟨none, .mov (.r 6)⟩,
    ⟨none, .slc 34 (.l 1) none (some (.l 0)) none⟩,
    ⟨none, .ld true 34 (.r 7)⟩,
    ⟨none, .vc 99 [(.l 1), (.l 0)]⟩] [(21, 0)] []) (
  .cond (.r 21) (
  .seq (.reg false [⟨none, .mov (.v (.c (.d (.int .i64 14))))⟩] [(2, 0)] []) (
  .ret)) (
  .skip))))))) (
  .reg false [⟨none, .bin .add (.r 17) (.v (.c (.d (.int .i64 1))))⟩,
    ⟨none, .mov (.l 0)⟩] [(17, 0)] [])))
def fn84L1 : I := .seq (.reg false [⟨none, .bin .lss (.r 12) (.r 11)⟩] [(13, 0)] []) (
  .seq (.cond (.r 13) (
  .skip) (
  .exit 0)) (
  .seq (.block 1 (
  .seq (.reg false [⟨none, .mov (.r 12)⟩,
    ⟨none, .mov (.l 0)⟩] [(4, 0)] []) (
  .seq (.reg false [⟨none, .fa 2 (.r 1)⟩,
    ⟨none, .ld false 1 (.l 0)⟩,
    ⟨none, .mov (.r 4)⟩,
    ⟨none, .vc 97 [(.l 1), (.l 0)]⟩,
    ⟨none, .mov (.l 0)⟩] [(5, 0)] []) (
  .seq (.reg false [⟨none, .mov (.r 5)⟩,
    ⟨none, .bin .neq (.l 0) (.v (.c (.d (.int .i64 0))))⟩] [(14, 0)] []) (
  .cond (.r 14) (
  .seq (.reg false [⟨none, .mov (.r 5)⟩,
    ⟨none, .mov (.l 0)⟩] [(2, 0)] []) (
  .ret)) (
  .skip)))))) (
  .reg false [⟨none, .bin .add (.r 12) (.v (.c (.d (.int .i64 1))))⟩,
    ⟨none, .mov (.l 0)⟩] [(12, 0)] [])))
/-- vidimus/records.Check -/
def fn84 : Fn := ⟨1, 22, [0, 1, 2, 3, 4, 5, 6, 7, 8, 9, 13, 17, 18, 19, 26, 30, 31, 32, 33, 41, 47, 54], [.r 2],
  .seq (.reg false [⟨none, .box (.r 0)⟩,
    ⟨none, .mov (.v (.c (.d (.int .i64 0))))⟩] [(1, 1), (2, 0)] []) (
  .seq (.seq (.reg false [⟨none, .ld true 8 (.r 1)⟩,
    ⟨none, .vc 96 [(.l 0)]⟩,
    ⟨none, .mov (.l 0)⟩] [(3, 0)] []) (
  .seq (.reg false [⟨none, .mov (.r 3)⟩,
    ⟨none, .bin .neq (.l 0) (.v (.c (.d (.int .i64 0))))⟩] [(10, 0)] []) (
  .cond (.r 10) (
  .seq (.reg false [⟨none, .mov (.r 3)⟩,
    ⟨none, .mov (.l 0)⟩] [(2, 0)] []) (
  .ret)) (
  .skip)))) (
  .seq (.seq (.reg false [⟨none, .fa 2 (.r 1)⟩,
    ⟨none, .ld false 1 (.l 0)⟩,
    ⟨none, .len (.l 0)⟩,
    ⟨none, .mov (.v (.c (.d (.int .i64 0))))⟩] [(11, 1), (12, 0)] []) (
  .block 0 (
  .loop (some [1, 11, 12]) fn84L1))) (
  .seq (.seq (.reg false [⟨none, .fa 4 (.r 1)⟩,
    ⟨none, .ld false 1 (.l 0)⟩,
    ⟨none, .len (.l 0)⟩,
    ⟨none, .mov (.v (.c (.d (.int .i64 0))))⟩] [(15, 2), (16, 1), (17, 0)] []) (
  .block 2 (
  .loop (some [1, 15, 16, 17]) fn84L0))) (
  .seq (.reg false [⟨none, .mov (.v (.c (.d (.int .i64 0))))⟩] [(2, 0)] []) (
  .ret)))))⟩

def fn85L0 : I := .seq (.reg false [⟨none, .bin .lss (.r 6) (.r 5)⟩] [(7, 0)] []) (
  .seq (.cond (.r 7) (
  .skip) (
  .exit 0)) (
  .seq (.block 1 (
  .seq (.reg false [⟨none, .mov (.r 6)⟩,
    ⟨none, .mov (.l 0)⟩] [(3, 0)] []) (
  .seq (.reg true [⟨none, .mov (.r 0)⟩,
    ⟨none, .mov (.r 3)⟩,
    ⟨none, .ixa 17 (.l 1) (.l 0)⟩,
    ⟨none, .ld true 17 (.l 0)⟩,
    ⟨none, .mov (.r 1)⟩,
    ⟨none, .mov (.r 3)⟩,
    ⟨none, .ixa 17 (.l 1) (.l 0)⟩,
    ⟨none, .ld true 17 (.l 0)⟩,
    ⟨none, .eqa true 17 (.l 4) (.l 0)⟩] [(8, 0)] []) (
  .cond (.r 8) (
  .seq (.reg false [⟨none, .mov (.v (.c (.d (.bool false))))⟩] [(2, 0)] []) (
  .ret)) (
  .skip))))) (
  .reg false [⟨none, .bin .add (.r 6) (.v (.c (.d (.int .i64 1))))⟩,
    ⟨none, .mov (.l 0)⟩] [(6, 0)] [])))
/-- slices.Equal[[]vidimus/api.OID,vidimus/api.OID] -/
def fn85 : Fn := ⟨2, 9, [0, 1, 4, 5, 10, 12, 13, 14, 24], [.r 2],
  .seq (.reg false [⟨none, .mov (.v (.c (.d (.bool false))))⟩] [(2, 0)] []) (
  .seq (.seq (.reg false [⟨none, .mov (.r 0)⟩,
    ⟨none, .len (.l 0)⟩,
    ⟨none, .mov (.r 1)⟩,
    ⟨none, .len (.l 0)⟩,
    ⟨none, .bin .neq (.l 2) (.l 0)⟩] [(4, 0)] []) (
  .cond (.r 4) (
  .seq (.reg false [⟨none, .mov (.v (.c (.d (.bool false))))⟩] [(2, 0)] []) (
  .ret)) (
  .skip))) (
  .seq (.seq (.reg false [⟨none, .mov (.r 0)⟩,
    ⟨none, .len (.l 0)⟩,
    ⟨none, .mov (.v (.c (.d (.int .i64 0))))⟩] [(5, 1), (6, 0)] []) (
  .block 0 (
  .loop (some [0, 1, 5, 6]) fn85L0))) (
  .seq (.reg false [⟨none, .mov (.v (.c (.d (.bool true))))⟩] [(2, 0)] []) (
  .ret))))⟩

def fn86L0 : I := .seq (.reg false [⟨none, .bin .lss (.r 10) (.r 9)⟩] [(11, 0)] []) (
  .seq (.cond (.r 11) (
  .skip) (
  .exit 0)) (
  .seq (.block 1 (
  .seq (.reg false [⟨none, .mov (.r 10)⟩,
    ⟨none, .ixa 8 (.r 8) (.r 10)⟩,
    ⟨none, .ld true 8 (.l 0)⟩,
    ⟨none, .pre⟩,
    ⟨none, .mov (.l 3)⟩,
    ⟨none, .ini 8 (.l 2)⟩] [(4, 1), (5, 0)] []) (
  .seq (.reg false [⟨none, .mov (.r 1)⟩,
    ⟨none, .mov (.r 4)⟩,
    ⟨none, .ixa 8 (.l 1) (.l 0)⟩,
    ⟨none, .ld true 8 (.l 0)⟩,
    ⟨none, .pre⟩,
    ⟨none, .ini 8 (.l 1)⟩] [(6, 0)] []) (
  .seq (.reg false [⟨none, .mov (.r 2)⟩,
    ⟨none, .ld true 8 (.r 5)⟩,
    ⟨none, .ld true 8 (.r 6)⟩,
    ⟨none, .hc (.l 2) [(.l 1), (.l 0)]⟩,
    ⟨none, .un .not (.l 0)⟩] [(12, 0)] []) (
  .cond (.r 12) (
  .seq (.reg false [⟨none, .mov (.v (.c (.d (.bool false))))⟩] [(3, 0)] []) (
  .ret)) (
  .skip)))))) (
  .reg false [⟨none, .bin .add (.r 10) (.v (.c (.d (.int .i64 1))))⟩,
    ⟨none, .mov (.l 0)⟩] [(10, 0)] [])))
/-- slices.EqualFunc[[]vidimus/api.Record,[]vidimus/api.Record,vidimus/api.Record,vidimus/api.Record] -/
def fn86 : Fn := ⟨3, 13, [0, 1, 2, 6, 7, 8, 9, 14, 15, 16, 17, 18, 30], [.r 3],
  .seq (.reg false [⟨none, .mov (.v (.c (.d (.bool false))))⟩] [(3, 0)] []) (
  .seq (.seq (.reg false [⟨none, .mov (.r 0)⟩,
    ⟨none, .len (.l 0)⟩,
    ⟨none, .mov (.r 1)⟩,
    ⟨none, .len (.l 0)⟩,
    ⟨none, .bin .neq (.l 2) (.l 0)⟩] [(7, 0)] []) (
  .cond (.r 7) (
  .seq (.reg false [⟨none, .mov (.v (.c (.d (.bool false))))⟩] [(3, 0)] []) (
  .ret)) (
  .skip))) (
  .seq (.seq (.reg false [⟨none, .mov (.r 0)⟩,
    ⟨none, .len (.l 0)⟩,
    ⟨none, .mov (.v (.c (.d (.int .i64 0))))⟩] [(8, 2), (9, 1), (10, 0)] []) (
  .block 0 (
  .loop (some [1, 2, 8, 9, 10]) fn86L0))) (
  .seq (.reg false [⟨none, .mov (.v (.c (.d (.bool true))))⟩] [(3, 0)] []) (
  .ret))))⟩

/-- vidimus/caches.sameRecord -/
def fn87 : Fn := ⟨2, 5, [0, 1, 2, 3, 4], [.r 4],
  .seq (.reg false [⟨none, .box (.r 0)⟩,
    ⟨none, .box (.r 1)⟩,
    ⟨none, .mov (.v (.c (.d (.bool false))))⟩] [(2, 2), (3, 1), (4, 0)] []) (
  .seq (.reg false [⟨none, .fa 0 (.r 2)⟩,
    ⟨none, .ld false 1 (.l 0)⟩,
    ⟨none, .fa 0 (.r 3)⟩,
    ⟨none, .ld false 1 (.l 0)⟩,
    ⟨none, .beq false (.l 2) (.l 0)⟩,
    ⟨none, .mov (.l 0)⟩,
    ⟨some (0, true), .fa 1 (.r 2)⟩,
    ⟨some (1, true), .ld false 1 (.l 0)⟩,
    ⟨some (2, true), .fa 1 (.r 3)⟩,
    ⟨some (3, true), .ld false 1 (.l 0)⟩,
    ⟨some (4, true), .beq false (.l 2) (.l 0)⟩,
    ⟨none, .pick (.l 5) (.l 0) (.v (.c (.d (.bool false))))⟩,
    ⟨none, .mov (.l 0)⟩,
    ⟨some (0, true), .fa 3 (.r 2)⟩,
    ⟨some (1, true), .ld false 1 (.l 0)⟩,
    ⟨some (2, true), .fa 3 (.r 3)⟩,
    ⟨some (3, true), .ld false 1 (.l 0)⟩,
    ⟨some (4, true), .beq false (.l 2) (.l 0)⟩,
    ⟨none, .pick (.l 5) (.l 0) (.v (.c (.d (.bool false))))⟩,
    ⟨none, .mov (.l 0)⟩,
    ⟨some (0, true), .fa 5 (.r 2)⟩,
    ⟨some (1, true), .ld false 1 (.l 0)⟩,
    ⟨some (2, true), .fa 5 (.r 3)⟩,
    ⟨some (3, true), .ld false 1 (.l 0)⟩,
    ⟨some (4, true), .bin .eql (.l 2) (.l 0)⟩,
    ⟨none, .pick (.l 5) (.l 0) (.v (.c (.d (.bool false))))⟩,
    ⟨none, .mov (.l 0)⟩,
    ⟨some (0, true), .fa 6 (.r 2)⟩,
    ⟨some (1, true), .ld false 1 (.l 0)⟩,
    ⟨some (2, true), .fa 6 (.r 3)⟩,
    ⟨some (3, true), .ld false 1 (.l 0)⟩,
    ⟨some (4, true), .bin .eql (.l 2) (.l 0)⟩,
    ⟨none, .pick (.l 5) (.l 0) (.v (.c (.d (.bool false))))⟩,
    ⟨none, .mov (.l 0)⟩,
    ⟨some (0, true), .fa 7 (.r 2)⟩,
    ⟨some (1, true), .ld false 1 (.l 0)⟩,
    ⟨some (2, true), .fa 7 (.r 3)⟩,
    ⟨some (3, true), .ld false 1 (.l 0)⟩,
    ⟨some (4, true), .bin .eql (.l 2) (.l 0)⟩,
    ⟨none, .pick (.l 5) (.l 0) (.v (.c (.d (.bool false))))⟩,
    ⟨none, .mov (.l 0)⟩,
    ⟨some (0, true), .fa 4 (.r 2)⟩,
    ⟨some (1, true), .ld false 1 (.l 0)⟩,
    ⟨some (2, true), .fa 4 (.r 3)⟩,
    ⟨some (3, true), .ld false 1 (.l 0)⟩,
    ⟨some (4, true), .vc 100 [(.l 2), (.l 0)]⟩,
    ⟨none, .pick (.l 5) (.l 0) (.v (.c (.d (.bool false))))⟩,
    ⟨none, .mov (.l 0)⟩,
    ⟨some (0, true), .fa 2 (.r 2)⟩,
    ⟨some (1, true), .ld false 1 (.l 0)⟩,
    ⟨some (2, true), .fa 2 (.r 3)⟩,
    ⟨some (3, true), .ld false 1 (.l 0)⟩,
    ⟨some (4, true), .vc 101 [(.l 2), (.l 0), (.v (.c (.d (.fn 102 [] []))))]⟩,
    ⟨none, .pick (.l 5) (.l 0) (.v (.c (.d (.bool false))))⟩,
    ⟨none, .mov (.l 0)⟩] [(4, 0)] []) (
  .ret))⟩

def fn91L0 : I := .seq (.reg false [⟨none, .bin .lss (.r 8) (.r 7)⟩] [(9, 0)] []) (
  .seq (.cond (.r 9) (
  .skip) (
  .exit 0)) (
  .seq (.block 1 (
  .seq (.reg false [⟨none, .ixa 8 (.r 6) (.r 8)⟩,
    ⟨none, .ld true 8 (.l 0)⟩,
    ⟨none, .pre⟩,
    ⟨none, .ini 8 (.l 1)⟩] [(2, 0)] []) (
  .seq (.reg false [⟨none, .ld true 8 (.r 2)⟩,
    ⟨none, .vc 84 [(.l 0)]⟩,
    ⟨none, .mov (.l 0)⟩] [(3, 0)] []) (
  .seq (.reg false [⟨none, .mov (.r 3)⟩,
    ⟨none, .bin .neq (.l 0) (.v (.c (.d (.int .i64 0))))⟩] [(10, 0)] []) (
  .cond (.r 10) (
  .seq (.reg false [⟨none, .mov (.r 3)⟩,
    ⟨none, .mov (.l 0)⟩] [(1, 0)] []) (
  .ret)) (
  .skip)))))) (
  .reg false [⟨none, .bin .add (.r 8) (.v (.c (.d (.int .i64 1))))⟩,
    ⟨none, .mov (.l 0)⟩] [(8, 0)] [])))
/-- vidimus/records.Chain -/
def fn91 : Fn := ⟨1, 11, [0, 2, 4, 5, 8, 11, 12, 13, 14, 15, 21], [.r 1],
  .seq (.reg false [⟨none, .mov (.v (.c (.d (.int .i64 0))))⟩] [(1, 0)] []) (
  .seq (.seq (.reg false [⟨none, .mov (.r 0)⟩,
    ⟨none, .len (.l 0)⟩,
    ⟨none, .bin .eql (.l 0) (.v (.c (.d (.int .i64 0))))⟩] [(4, 0)] []) (
  .cond (.r 4) (
  .seq (.reg false [⟨none, .mov (.v (.c (.d (.int .i64 17))))⟩] [(1, 0)] []) (
  .ret)) (
  .skip))) (
  .seq (.seq (.reg false [⟨none, .mov (.r 0)⟩,
    ⟨none, .len (.l 0)⟩,
    ⟨none, .bin .gtr (.l 0) (.v (.c (.d (.int .i64 64))))⟩] [(5, 0)] []) (
  .cond (.r 5) (
  .seq (.reg false [⟨none, .mov (.v (.c (.d (.int .i64 3))))⟩] [(1, 0)] []) (
  .ret)) (
  .skip))) (
  .seq (.seq (.reg false [⟨none, .mov (.r 0)⟩,
    ⟨none, .len (.l 0)⟩,
    ⟨none, .mov (.v (.c (.d (.int .i64 0))))⟩] [(6, 2), (7, 1), (8, 0)] []) (
  .block 0 (
  .loop (some [6, 7, 8]) fn91L0))) (
  .seq (.reg false [⟨none, .mov (.v (.c (.d (.int .i64 0))))⟩] [(1, 0)] []) (
  .ret)))))⟩

def fn93L0 : I := .seq (.reg false [⟨none, .bin .lss (.r 9) (.r 8)⟩] [(10, 0)] []) (
  .seq (.cond (.r 10) (
  .skip) (
  .exit 0)) (
  .seq (.block 1 (
  .seq (.reg false [⟨none, .mov (.r 9)⟩,
    ⟨none, .ixa 17 (.r 7) (.r 9)⟩,
    ⟨none, .ld true 17 (.l 0)⟩,
    ⟨none, .pre⟩,
    ⟨none, .mov (.l 3)⟩,
    ⟨none, .ini 17 (.l 2)⟩] [(2, 1), (3, 0)] []) (
  .seq (.seq (.reg false [⟨none, .ld true 17 (.r 3)⟩,
    ⟨none, .vc 98 [(.l 0)]⟩,
    ⟨none, .mov (.l 0)⟩] [(4, 0)] []) (
  .seq (.reg false [⟨none, .mov (.r 4)⟩,
    ⟨none, .bin .neq (.l 0) (.v (.c (.d (.int .i64 0))))⟩] [(11, 0)] []) (
  .cond (.r 11) (
  .seq (.reg false [⟨none, .mov (.r 4)⟩,
    ⟨none, .mov (.l 0)⟩] [(1, 0)] []) (
  .ret)) (
  .skip)))) (
  .seq (.seq (.reg false [⟨none, .mov (.r 2)⟩,
    ⟨none, .bin .eql (.l 0) (.v (.c (.d (.int .i64 0))))⟩] [(12, 0)] []) (
  .cond (.r 12) (
  .exit 1) (
  .skip))) (
  .seq (.reg true [⟨none, .mov (.r 0)⟩,
    ⟨none, .mov (.r 2)⟩,
    ⟨none, .bin .sub (.l 0) (.v (.c (.d (.int .i64 1))))⟩,
    ⟨none, .ixa 17 (.l 2) (.l 0)⟩,
    ⟨none, .ld true 17 (.l 0)⟩,
    ⟨none, .ld true 17 (.r 3)⟩,
    ⟨none, .vc 104 [(.l 1), (.l 0)]⟩,
    ⟨none, .mov (.l 0)⟩] [(5, 0)] []) (
  .block 2 (
  .seq (.reg false [⟨none, .mov (.r 5)⟩,
    ⟨none, .bin .eql (.l 0) (.v (.c (.d (.int .i64 0))))⟩,
    ⟨none, .mov (.l 0)⟩] [(13, 0)] []) (
  .cond (.r 13) (
  .seq (.reg false [⟨none, .mov (.v (.c (.d (.int .i64 14))))⟩] [(1, 0)] []) (
  .ret)) (
  .seq (.reg false [⟨none, .mov (.r 5)⟩,
    ⟨none, .bin .gtr (.l 0) (.v (.c (.d (.int .i64 0))))⟩,
    ⟨none, .mov (.l 0)⟩] [(14, 0)] []) (
  .cond (.r 14) (
  .seq (.reg false [⟨none, .mov (.v (.c (.d (.int .i64 13))))⟩] [(1, 0)] []) (
  .ret)) (
  .skip))))))))))) (
  .reg false [⟨none, .bin .add (.r 9) (.v (.c (.d (.int .i64 1))))⟩,
    ⟨none, .mov (.l 0)⟩] [(9, 0)] [])))
/-- vidimus/oidsets.Check -/
def fn93 : Fn := ⟨1, 15, [0, 2, 3, 4, 5, 6, 9, 10, 11, 12, 13, 20, 23, 31, 34], [.r 1],
  .seq (.reg false [⟨none, .mov (.v (.c (.d (.int .i64 0))))⟩] [(1, 0)] []) (
  .seq (.seq (.reg false [⟨none, .mov (.r 0)⟩,
    ⟨none, .len (.l 0)⟩,
    ⟨none, .bin .gtr (.l 0) (.v (.c (.d (.int .i64 256))))⟩] [(6, 0)] []) (
  .cond (.r 6) (
  .seq (.reg false [⟨none, .mov (.v (.c (.d (.int .i64 3))))⟩] [(1, 0)] []) (
  .ret)) (
  .skip))) (
  .seq (.seq (.reg false [⟨none, .mov (.r 0)⟩,
    ⟨none, .len (.l 0)⟩,
    ⟨none, .mov (.v (.c (.d (.int .i64 0))))⟩] [(7, 2), (8, 1), (9, 0)] []) (
  .block 0 (
  .loop (some [0, 7, 8, 9]) fn93L0))) (
  .seq (.reg false [⟨none, .mov (.v (.c (.d (.int .i64 0))))⟩] [(1, 0)] []) (
  .ret))))⟩

/-- vidimus/oids.Any -/
def fn95 : Fn := ⟨0, 1, [0], [.cell 0 17 true],
  .seq (.reg false [⟨none, .new [.int .u8 0, .int .u32 0, .int .u32 0, .int .u32 0, .int .u32 0, .int .u32 0, .int .u32 0, .int .u32 0, .int .u32 0, .int .u32 0, .int .u32 0, .int .u32 0, .int .u32 0, .int .u32 0, .int .u32 0, .int .u32 0, .int .u32 0]⟩] [(0, 0)] []) (
  .seq (.reg false [⟨none, .bsl 5 1 [.int .u32 0] [(0, 1, (.v (.c (.d (.int .u32 2))))), (1, 1, (.v (.c (.d (.int .u32 5))))), (2, 1, (.v (.c (.d (.int .u32 29))))), (3, 1, (.v (.c (.d (.int .u32 32))))), (4, 1, (.v (.c (.d (.int .u32 0)))))]⟩,
    ⟨none, .vc 107 [(.l 0)]⟩,
    ⟨none, .st 17 (.r 0) (.l 0)⟩] [] []) (
  .ret))⟩

/-- vidimus/records.shape -/
def fn96 : Fn := ⟨1, 8, [0, 1, 2, 3, 23, 33, 48, 66], [.r 2],
  .seq (.reg false [⟨none, .box (.r 0)⟩,
    ⟨none, .mov (.v (.c (.d (.int .i64 0))))⟩] [(1, 1), (2, 0)] []) (
  .seq (.seq (.reg false [⟨none, .fa 1 (.r 1)⟩,
    ⟨none, .ld false 1 (.l 0)⟩,
    ⟨none, .un .not (.l 0)⟩,
    ⟨none, .mov (.l 0)⟩,
    ⟨some (0, true), .fa 2 (.r 1)⟩,
    ⟨some (1, true), .ld false 1 (.l 0)⟩,
    ⟨some (2, true), .len (.l 0)⟩,
    ⟨some (3, true), .bin .gtr (.l 0) (.v (.c (.d (.int .i64 0))))⟩,
    ⟨none, .pick (.l 4) (.l 0) (.v (.c (.d (.bool false))))⟩,
    ⟨none, .mov (.l 0)⟩,
    ⟨some (0, false), .fa 3 (.r 1)⟩,
    ⟨some (1, false), .ld false 1 (.l 0)⟩,
    ⟨some (2, false), .un .not (.l 0)⟩,
    ⟨some (3, false), .mov (.l 0)⟩,
    ⟨some (0, true), .fa 4 (.r 1)⟩,
    ⟨some (1, true), .ld false 1 (.l 0)⟩,
    ⟨some (2, true), .len (.l 0)⟩,
    ⟨some (3, true), .bin .gtr (.l 0) (.v (.c (.d (.int .i64 0))))⟩,
    ⟨some (8, false), .pick (.l 4) (.l 0) (.v (.c (.d (.bool false))))⟩,
    ⟨none, .pick (.l 9) (.v (.c (.d (.bool true)))) (.l 0)⟩] [(4, 0)] []) (
  .cond (.r 4) (
  .seq (.reg false [⟨none, .mov (.v (.c (.d (.int .i64 1))))⟩] [(2, 0)] []) (
  .ret)) (
  .skip))) (
  .seq (.reg false [⟨none, .fa 5 (.r 1)⟩,
    ⟨none, .ld false 1 (.l 0)⟩,
    ⟨none, .fa 6 (.r 1)⟩,
    ⟨none, .ld false 1 (.l 0)⟩,
    ⟨none, .fa 7 (.r 1)⟩,
    ⟨none, .ld false 1 (.l 0)⟩,
    ⟨none, .bld [.int .i64 0, .int .i64 0, .int .i64 0] [(0, 1, (.l 4)), (1, 1, (.l 2)), (2, 1, (.l 0))]⟩,
    ⟨none, .pre⟩,
    ⟨none, .ini 3 (.l 1)⟩] [(3, 0)] []) (
  .seq (.seq (.reg false [⟨none, .slp 3 1 (.r 3) none none none⟩,
    ⟨none, .vc 108 [(.l 0)]⟩,
    ⟨none, .bin .lss (.l 0) (.v (.c (.d (.int .i64 (-1)))))⟩] [(5, 0)] []) (
  .cond (.r 5) (
  .seq (.reg false [⟨none, .mov (.v (.c (.d (.int .i64 1))))⟩] [(2, 0)] []) (
  .ret)) (
  .skip))) (
  .seq (.seq (.reg false [⟨none, .slp 3 1 (.r 3) none none none⟩,
    ⟨none, .vc 109 [(.l 0)]⟩,
    ⟨none, .bin .gtr (.l 0) (.v (.c (.d (.int .i64 2147483647))))⟩,
    ⟨none, .mov (.l 0)⟩,
    ⟨some (0, false), .fa 2 (.r 1)⟩,
    ⟨some (1, false), .ld false 1 (.l 0)⟩,
    ⟨some (2, false), .len (.l 0)⟩,
    ⟨some (3, false), .bin .gtr (.l 0) (.v (.c (.d (.int .i64 64))))⟩,
    ⟨none, .pick (.l 4) (.v (.c (.d (.bool true)))) (.l 0)⟩,
    ⟨none, .mov (.l 0)⟩,
    ⟨some (0, false), .fa 4 (.r 1)⟩,
    ⟨some (1, false), .ld false 1 (.l 0)⟩,
    ⟨some (2, false), .len (.l 0)⟩,
    ⟨some (3, false), .bin .gtr (.l 0) (.v (.c (.d (.int .i64 64))))⟩,
    ⟨none, .pick (.l 4) (.v (.c (.d (.bool true)))) (.l 0)⟩] [(6, 0)] []) (
  .cond (.r 6) (
  .seq (.reg false [⟨none, .mov (.v (.c (.d (.int .i64 3))))⟩] [(2, 0)] []) (
  .ret)) (
  .skip))) (
  .seq (.seq (.reg false [⟨none, .fa 1 (.r 1)⟩,
    ⟨none, .ld false 1 (.l 0)⟩,
    ⟨none, .mov (.l 0)⟩,
    ⟨some (0, true), .fa 2 (.r 1)⟩,
    ⟨some (1, true), .ld false 1 (.l 0)⟩,
    ⟨some (2, true), .len (.l 0)⟩,
    ⟨some (3, true), .bin .eql (.l 0) (.v (.c (.d (.int .i64 0))))⟩,
    ⟨none, .pick (.l 4) (.l 0) (.v (.c (.d (.bool false))))⟩,
    ⟨none, .mov (.l 0)⟩,
    ⟨some (0, false), .fa 3 (.r 1)⟩,
    ⟨some (1, false), .ld false 1 (.l 0)⟩,
    ⟨some (2, false), .mov (.l 0)⟩,
    ⟨some (0, true), .fa 4 (.r 1)⟩,
    ⟨some (1, true), .ld false 1 (.l 0)⟩,
    ⟨some (2, true), .len (.l 0)⟩,
    ⟨some (3, true), .bin .eql (.l 0) (.v (.c (.d (.int .i64 0))))⟩,
    ⟨some (7, false), .pick (.l 4) (.l 0) (.v (.c (.d (.bool false))))⟩,
    ⟨none, .pick (.l 8) (.v (.c (.d (.bool true)))) (.l 0)⟩] [(7, 0)] []) (
  .cond (.r 7) (
  .seq (.reg false [⟨none, .mov (.v (.c (.d (.int .i64 17))))⟩] [(2, 0)] []) (
  .ret)) (
  .skip))) (
  .seq (.reg false [⟨none, .mov (.v (.c (.d (.int .i64 0))))⟩] [(2, 0)] []) (
  .ret)))))))⟩

def fn98L0 : I := .seq (.reg false [⟨none, .bin .lss (.r 8) (.r 7)⟩] [(9, 0)] []) (
  .seq (.cond (.r 9) (
  .skip) (
  .exit 0)) (
  .seq (.block 1 (
  .seq (.reg false [⟨none, .ixa 1 (.r 6) (.r 8)⟩,
    ⟨none, .ld false 1 (.l 0)⟩,
    ⟨none, .mov (.l 0)⟩] [(3, 0)] []) (
  .seq (.reg false [⟨none, .mov (.r 3)⟩,
    ⟨none, .bin .neq (.l 0) (.v (.c (.d (.int .u32 0))))⟩] [(10, 0)] []) (
  .cond (.r 10) (
  .seq (.reg false [⟨none, .mov (.v (.c (.d (.int .i64 1))))⟩] [(2, 0)] []) (
  .ret)) (
  .skip))))) (
  .reg false [⟨none, .bin .add (.r 8) (.v (.c (.d (.int .i64 1))))⟩,
    ⟨none, .mov (.l 0)⟩] [(8, 0)] [])))
/-- vidimus/oids.Check -/
def fn98 : Fn := ⟨1, 11, [0, 1, 2, 4, 18, 34, 38, 39, 40, 41, 45], [.r 2],
  .seq (.reg false [⟨none, .box (.r 0)⟩,
    ⟨none, .mov (.v (.c (.d (.int .i64 0))))⟩] [(1, 1), (2, 0)] []) (
  .seq (.seq (.reg false [⟨none, .fa 0 (.r 1)⟩,
    ⟨none, .ld false 1 (.l 0)⟩,
    ⟨none, .bin .lss (.l 0) (.v (.c (.d (.int .u8 2))))⟩,
    ⟨none, .mov (.l 0)⟩,
    ⟨some (0, false), .fa 0 (.r 1)⟩,
    ⟨some (1, false), .ld false 1 (.l 0)⟩,
    ⟨some (2, false), .bin .gtr (.l 0) (.v (.c (.d (.int .u8 16))))⟩,
    ⟨none, .pick (.l 3) (.v (.c (.d (.bool true)))) (.l 0)⟩,
    ⟨none, .mov (.l 0)⟩,
    ⟨some (0, false), .fa 1 (.r 1)⟩,
    ⟨some (1, false), .ixp 16 1 (.l 0) (.v (.c (.d (.int .i64 0))))⟩,
    ⟨some (2, false), .ld false 1 (.l 0)⟩,
    ⟨some (3, false), .bin .gtr (.l 0) (.v (.c (.d (.int .u32 2))))⟩,
    ⟨none, .pick (.l 4) (.v (.c (.d (.bool true)))) (.l 0)⟩] [(4, 0)] []) (
  .cond (.r 4) (
  .seq (.reg false [⟨none, .mov (.v (.c (.d (.int .i64 1))))⟩] [(2, 0)] []) (
  .ret)) (
  .skip))) (
  .seq (.seq (.reg false [⟨none, .fa 1 (.r 1)⟩,
    ⟨none, .ixp 16 1 (.l 0) (.v (.c (.d (.int .i64 0))))⟩,
    ⟨none, .ld false 1 (.l 0)⟩,
    ⟨none, .bin .lss (.l 0) (.v (.c (.d (.int .u32 2))))⟩,
    ⟨none, .mov (.l 0)⟩,
    ⟨some (0, true), .fa 1 (.r 1)⟩,
    ⟨some (1, true), .ixp 16 1 (.l 0) (.v (.c (.d (.int .i64 1))))⟩,
    ⟨some (2, true), .ld false 1 (.l 0)⟩,
    ⟨some (3, true), .bin .gtr (.l 0) (.v (.c (.d (.int .u32 39))))⟩,
    ⟨none, .pick (.l 4) (.l 0) (.v (.c (.d (.bool false))))⟩,
    ⟨none, .mov (.l 0)⟩,
    ⟨some (0, false), .fa 1 (.r 1)⟩,
    ⟨some (1, false), .ixp 16 1 (.l 0) (.v (.c (.d (.int .i64 1))))⟩,
    ⟨some (2, false), .ld false 1 (.l 0)⟩,
    ⟨some (3, false), .bin .gtr (.l 0) (.v (.c (.d (.int .u32 4294967215))))⟩,
    ⟨none, .pick (.l 4) (.v (.c (.d (.bool true)))) (.l 0)⟩] [(5, 0)] []) (
  .cond (.r 5) (
  .seq (.reg false [⟨none, .mov (.v (.c (.d (.int .i64 1))))⟩] [(2, 0)] []) (
  .ret)) (
  .skip))) (
  .seq (.seq (.reg false [⟨none, .fa 1 (.r 1)⟩,
    ⟨none, .fa 0 (.r 1)⟩,
    ⟨none, .ld false 1 (.l 0)⟩,
    ⟨none, .slp 16 1 (.l 2) (some (.l 0)) none none⟩,
    ⟨none, .len (.l 0)⟩,
    ⟨none, .mov (.v (.c (.d (.int .i64 0))))⟩] [(6, 2), (7, 1), (8, 0)] []) (
  .block 0 (
  .loop (some [6, 7, 8]) fn98L0))) (
  .seq (.reg false [⟨none, .mov (.v (.c (.d (.int .i64 0))))⟩] [(2, 0)] []) (
  .ret)))))⟩

def fn100L0 : I := .seq (.reg false [⟨none, .bin .lss (.r 6) (.r 5)⟩] [(7, 0)] []) (
  .seq (.cond (.r 7) (
  .skip) (
  .exit 0)) (
  .seq (.block 1 (
  .seq (.reg false [⟨none, .mov (.r 6)⟩,
    ⟨none, .mov (.l 0)⟩] [(3, 0)] []) (
  .seq (.reg true [⟨none, .mov (.r 0)⟩,
    ⟨none, .mov (.r 3)⟩,
    ⟨none, .ixa 34 (.l 1) (.l 0)⟩,
    ⟨none, .ld true 34 (.l 0)⟩,
    ⟨none, .mov (.r 1)⟩,
    ⟨none, .mov (.r 3)⟩,
    ⟨none, .ixa 34 (.l 1) (.l 0)⟩,
    ⟨none, .ld true 34 (.l 0)⟩,
    ⟨none, .eqa true 34 (.l 4) (.l 0)⟩] [(8, 0)] []) (
  .cond (.r 8) (
  .seq (.reg false [⟨none, .mov (.v (.c (.d (.bool false))))⟩] [(2, 0)] []) (
  .ret)) (
  .skip))))) (
  .reg false [⟨none, .bin .add (.r 6) (.v (.c (.d (.int .i64 1))))⟩,
    ⟨none, .mov (.l 0)⟩] [(6, 0)] [])))
/-- slices.Equal[[]vidimus/api.Mapping,vidimus/api.Mapping] -/
def fn100 : Fn := ⟨2, 9, [0, 1, 4, 5, 10, 12, 13, 14, 24], [.r 2],
  .seq (.reg false [⟨none, .mov (.v (.c (.d (.bool false))))⟩] [(2, 0)] []) (
  .seq (.seq (.reg false [⟨none, .mov (.r 0)⟩,
    ⟨none, .len (.l 0)⟩,
    ⟨none, .mov (.r 1)⟩,
    ⟨none, .len (.l 0)⟩,
    ⟨none, .bin .neq (.l 2) (.l 0)⟩] [(4, 0)] []) (
  .cond (.r 4) (
  .seq (.reg false [⟨none, .mov (.v (.c (.d (.bool false))))⟩] [(2, 0)] []) (
  .ret)) (
  .skip))) (
  .seq (.seq (.reg false [⟨none, .mov (.r 0)⟩,
    ⟨none, .len (.l 0)⟩,
    ⟨none, .mov (.v (.c (.d (.int .i64 0))))⟩] [(5, 1), (6, 0)] []) (
  .block 0 (
  .loop (some [0, 1, 5, 6]) fn100L0))) (
  .seq (.reg false [⟨none, .mov (.v (.c (.d (.bool true))))⟩] [(2, 0)] []) (
  .ret))))⟩

def fn101L0 : I := .seq (.reg false [⟨none, .bin .lss (.r 10) (.r 9)⟩] [(11, 0)] []) (
  .seq (.cond (.r 11) (
  .skip) (
  .exit 0)) (
  .seq (.block 1 (
  .seq (.reg false [⟨none, .mov (.r 10)⟩,
    ⟨none, .ixa 18 (.r 8) (.r 10)⟩,
    ⟨none, .ld true 18 (.l 0)⟩,
    ⟨none, .pre⟩,
    ⟨none, .mov (.l 3)⟩,
    ⟨none, .ini 18 (.l 2)⟩] [(4, 1), (5, 0)] []) (
  .seq (.reg false [⟨none, .mov (.r 1)⟩,
    ⟨none, .mov (.r 4)⟩,
    ⟨none, .ixa 18 (.l 1) (.l 0)⟩,
    ⟨none, .ld true 18 (.l 0)⟩,
    ⟨none, .pre⟩,
    ⟨none, .ini 18 (.l 1)⟩] [(6, 0)] []) (
  .seq (.reg false [⟨none, .mov (.r 2)⟩,
    ⟨none, .ld true 18 (.r 5)⟩,
    ⟨none, .ld true 18 (.r 6)⟩,
    ⟨none, .hc (.l 2) [(.l 1), (.l 0)]⟩,
    ⟨none, .un .not (.l 0)⟩] [(12, 0)] []) (
  .cond (.r 12) (
  .seq (.reg false [⟨none, .mov (.v (.c (.d (.bool false))))⟩] [(3, 0)] []) (
  .ret)) (
  .skip)))))) (
  .reg false [⟨none, .bin .add (.r 10) (.v (.c (.d (.int .i64 1))))⟩,
    ⟨none, .mov (.l 0)⟩] [(10, 0)] [])))
/-- slices.EqualFunc[[]vidimus/api.Policy,[]vidimus/api.Policy,vidimus/api.Policy,vidimus/api.Policy] -/
def fn101 : Fn := ⟨3, 13, [0, 1, 2, 6, 7, 8, 9, 14, 15, 16, 17, 18, 30], [.r 3],
  .seq (.reg false [⟨none, .mov (.v (.c (.d (.bool false))))⟩] [(3, 0)] []) (
  .seq (.seq (.reg false [⟨none, .mov (.r 0)⟩,
    ⟨none, .len (.l 0)⟩,
    ⟨none, .mov (.r 1)⟩,
    ⟨none, .len (.l 0)⟩,
    ⟨none, .bin .neq (.l 2) (.l 0)⟩] [(7, 0)] []) (
  .cond (.r 7) (
  .seq (.reg false [⟨none, .mov (.v (.c (.d (.bool false))))⟩] [(3, 0)] []) (
  .ret)) (
  .skip))) (
  .seq (.seq (.reg false [⟨none, .mov (.r 0)⟩,
    ⟨none, .len (.l 0)⟩,
    ⟨none, .mov (.v (.c (.d (.int .i64 0))))⟩] [(8, 2), (9, 1), (10, 0)] []) (
  .block 0 (
  .loop (some [1, 2, 8, 9, 10]) fn101L0))) (
  .seq (.reg false [⟨none, .mov (.v (.c (.d (.bool true))))⟩] [(3, 0)] []) (
  .ret))))⟩

/-- slices.Contains[[]vidimus/api.OID,vidimus/api.OID] -/
def fn105 : Fn := ⟨2, 4, [0, 1, 3, 4], [.r 3],
  .seq (.reg false [⟨none, .box (.r 1)⟩,
    ⟨none, .mov (.v (.c (.d (.bool false))))⟩] [(2, 1), (3, 0)] []) (
  .seq (.reg false [⟨none, .mov (.r 0)⟩,
    ⟨none, .ld true 17 (.r 2)⟩,
    ⟨none, .vc 116 [(.l 1), (.l 0)]⟩,
    ⟨none, .bin .geq (.l 0) (.v (.c (.d (.int .i64 0))))⟩,
    ⟨none, .mov (.l 0)⟩] [(3, 0)] []) (
  .ret))⟩

/-- vidimus/oids.Of -/
def fn107 : Fn := ⟨1, 5, [0, 2, 3, 6, 18], [.cell 1 17 true],
  .seq (.reg false [⟨none, .new [.int .u8 0, .int .u32 0, .int .u32 0, .int .u32 0, .int .u32 0, .int .u32 0, .int .u32 0, .int .u32 0, .int .u32 0, .int .u32 0, .int .u32 0, .int .u32 0, .int .u32 0, .int .u32 0, .int .u32 0, .int .u32 0, .int .u32 0]⟩] [(1, 0)] []) (
  .seq (.seq (.reg false [⟨none, .mov (.r 0)⟩,
    ⟨none, .len (.l 0)⟩,
    ⟨none, .bin .gtr (.l 0) (.v (.c (.d (.int .i64 16))))⟩] [(3, 0)] []) (
  .cond (.r 3) (
  .seq (.reg false [⟨none, .bld [.int .u8 0, .int .u32 0, .int .u32 0, .int .u32 0, .int .u32 0, .int .u32 0, .int .u32 0, .int .u32 0, .int .u32 0, .int .u32 0, .int .u32 0, .int .u32 0, .int .u32 0, .int .u32 0, .int .u32 0, .int .u32 0, .int .u32 0] []⟩,
    ⟨none, .st 17 (.r 1) (.l 0)⟩] [] []) (
  .ret)) (
  .skip))) (
  .seq (.reg false [⟨none, .mov (.r 0)⟩,
    ⟨none, .len (.l 0)⟩,
    ⟨none, .cvi .u8 (.l 0)⟩,
    ⟨none, .bld [.int .u8 0, .int .u32 0, .int .u32 0, .int .u32 0, .int .u32 0, .int .u32 0, .int .u32 0, .int .u32 0, .int .u32 0, .int .u32 0, .int .u32 0, .int .u32 0, .int .u32 0, .int .u32 0, .int .u32 0, .int .u32 0, .int .u32 0] [(0, 1, (.l 0))]⟩,
    ⟨none, .pre⟩,
    ⟨none, .ini 17 (.l 1)⟩] [(2, 0)] []) (
  .seq (.reg false [⟨none, .fa 1 (.r 2)⟩,
    ⟨none, .slp 16 1 (.l 0) none none none⟩,
    ⟨none, .mov (.r 0)⟩,
    ⟨none, .cpy 1 (.l 1) (.l 0)⟩] [] []) (
  .seq (.seq (.reg false [⟨none, .ld true 17 (.r 2)⟩,
    ⟨none, .vc 98 [(.l 0)]⟩,
    ⟨none, .bin .neq (.l 0) (.v (.c (.d (.int .i64 0))))⟩] [(4, 0)] []) (
  .cond (.r 4) (
  .seq (.reg false [⟨none, .bld [.int .u8 0, .int .u32 0, .int .u32 0, .int .u32 0, .int .u32 0, .int .u32 0, .int .u32 0, .int .u32 0, .int .u32 0, .int .u32 0, .int .u32 0, .int .u32 0, .int .u32 0, .int .u32 0, .int .u32 0, .int .u32 0, .int .u32 0] []⟩,
    ⟨none, .st 17 (.r 1) (.l 0)⟩] [] []) (
  .ret)) (
  .skip))) (
  .seq (.reg false [⟨none, .ld true 17 (.r 2)⟩,
    ⟨none, .st 17 (.r 1) (.l 0)⟩] [] []) (
  .ret))))))⟩

def fn108L0 : I := .seq (.seq (.reg false [⟨none, .mov (.r 3)⟩,
    ⟨none, .mov (.r 0)⟩,
    ⟨none, .len (.l 0)⟩,
    ⟨none, .bin .lss (.l 2) (.l 0)⟩] [(5, 0)] []) (
  .cond (.r 5) (
  .skip) (
  .exit 0))) (
  .seq (.block 1 (
  .reg false [⟨none, .mov (.r 2)⟩,
    ⟨none, .mov (.r 0)⟩,
    ⟨none, .mov (.r 3)⟩,
    ⟨none, .ixa 1 (.l 1) (.l 0)⟩,
    ⟨none, .ld false 1 (.l 0)⟩,
    ⟨none, .mm false (.l 4) (.l 0)⟩,
    ⟨none, .mov (.l 0)⟩] [(2, 0)] [])) (
  .reg false [⟨none, .mov (.r 3)⟩,
    ⟨none, .bin .add (.l 0) (.v (.c (.d (.int .i64 1))))⟩,
    ⟨none, .mov (.l 0)⟩] [(3, 0)] []))
/-- slices.Min[[]int,int] -/
def fn108 : Fn := ⟨1, 6, [0, 2, 3, 4, 7, 15], [.r 1],
  .seq (.reg false [⟨none, .mov (.v (.c (.d (.int .i64 0))))⟩] [(1, 0)] []) (
  .seq (.seq (.reg false [⟨none, .mov (.r 0)⟩,
    ⟨none, .len (.l 0)⟩,
    ⟨none, .bin .lss (.l 0) (.v (.c (.d (.int .i64 1))))⟩] [(4, 0)] []) (
  .cond (.r 4) (
  .bad) (
  .skip))) (
  .seq (.reg false [⟨none, .mov (.r 0)⟩,
    ⟨none, .ixa 1 (.l 0) (.v (.c (.d (.int .i64 0))))⟩,
    ⟨none, .ld false 1 (.l 0)⟩,
    ⟨none, .mov (.l 0)⟩] [(2, 0)] []) (
  .seq (.seq (.reg false [⟨none, .mov (.v (.c (.d (.int .i64 1))))⟩] [(3, 0)] []) (
  .block 0 (
  .loop (some [0, 2, 3]) fn108L0))) (
  .seq (.reg false [⟨none, .mov (.r 2)⟩,
    ⟨none, .mov (.l 0)⟩] [(1, 0)] []) (
  .ret)))))⟩

def fn109L0 : I := .seq (.seq (.reg false [⟨none, .mov (.r 3)⟩,
    ⟨none, .mov (.r 0)⟩,
    ⟨none, .len (.l 0)⟩,
    ⟨none, .bin .lss (.l 2) (.l 0)⟩] [(5, 0)] []) (
  .cond (.r 5) (
  .skip) (
  .exit 0))) (
  .seq (.block 1 (
  .reg false [⟨none, .mov (.r 2)⟩,
    ⟨none, .mov (.r 0)⟩,
    ⟨none, .mov (.r 3)⟩,
    ⟨none, .ixa 1 (.l 1) (.l 0)⟩,
    ⟨none, .ld false 1 (.l 0)⟩,
    ⟨none, .mm true (.l 4) (.l 0)⟩,
    ⟨none, .mov (.l 0)⟩] [(2, 0)] [])) (
  .reg false [⟨none, .mov (.r 3)⟩,
    ⟨none, .bin .add (.l 0) (.v (.c (.d (.int .i64 1))))⟩,
    ⟨none, .mov (.l 0)⟩] [(3, 0)] []))
/-- slices.Max[[]int,int] -/
def fn109 : Fn := ⟨1, 6, [0, 2, 3, 4, 7, 15], [.r 1],
  .seq (.reg false [⟨none, .mov (.v (.c (.d (.int .i64 0))))⟩] [(1, 0)] []) (
  .seq (.seq (.reg false [⟨none, .mov (.r 0)⟩,
    ⟨none, .len (.l 0)⟩,
    ⟨none, .bin .lss (.l 0) (.v (.c (.d (.int .i64 1))))⟩] [(4, 0)] []) (
  .cond (.r 4) (
  .bad) (
  .skip))) (
  .seq (.reg false [⟨none, .mov (.r 0)⟩,
    ⟨none, .ixa 1 (.l 0) (.v (.c (.d (.int .i64 0))))⟩,
    ⟨none, .ld false 1 (.l 0)⟩,
    ⟨none, .mov (.l 0)⟩] [(2, 0)] []) (
  .seq (.seq (.reg false [⟨none, .mov (.v (.c (.d (.int .i64 1))))⟩] [(3, 0)] []) (
  .block 0 (
  .loop (some [0, 2, 3]) fn109L0))) (
  .seq (.reg false [⟨none, .mov (.r 2)⟩,
    ⟨none, .mov (.l 0)⟩] [(1, 0)] []) (
  .ret)))))⟩

def fn116L0 : I := .seq (.reg false [⟨none, .bin .lss (.r 6) (.r 5)⟩] [(7, 0)] []) (
  .seq (.cond (.r 7) (
  .skip) (
  .exit 0)) (
  .seq (.block 1 (
  .seq (.reg false [⟨none, .mov (.r 6)⟩,
    ⟨none, .mov (.l 0)⟩] [(4, 0)] []) (
  .seq (.reg true [⟨none, .ld true 17 (.r 2)⟩,
    ⟨none, .mov (.r 0)⟩,
    ⟨none, .mov (.r 4)⟩,
    ⟨none, .ixa 17 (.l 1) (.l 0)⟩,
    ⟨none, .ld true 17 (.l 0)⟩,
    ⟨none, .eqa false 17 (.l 4) (.l 0)⟩] [(8, 0)] []) (
  .cond (.r 8) (
  .seq (.reg false [⟨none, .mov (.r 4)⟩,
    ⟨none, .mov (.l 0)⟩] [(3, 0)] []) (
  .ret)) (
  .skip))))) (
  .reg false [⟨none, .bin .add (.r 6) (.v (.c (.d (.int .i64 1))))⟩,
    ⟨none, .mov (.l 0)⟩] [(6, 0)] [])))
/-- slices.Index[[]vidimus/api.OID,vidimus/api.OID] -/
def fn116 : Fn := ⟨2, 9, [0, 1, 3, 4, 5, 7, 8, 9, 16], [.r 3],
  .seq (.reg false [⟨none, .box (.r 1)⟩,
    ⟨none, .mov (.v (.c (.d (.int .i64 0))))⟩] [(2, 1), (3, 0)] []) (
  .seq (.seq (.reg false [⟨none, .mov (.r 0)⟩,
    ⟨none, .len (.l 0)⟩,
    ⟨none, .mov (.v (.c (.d (.int .i64 0))))⟩] [(5, 1), (6, 0)] []) (
  .block 0 (
  .loop (some [0, 2, 5, 6]) fn116L0))) (
  .seq (.reg false [⟨none, .mov (.v (.c (.d (.int .i64 (-1)))))⟩] [(3, 0)] []) (
  .ret)))⟩

/-- (vidimus/validates.byGraph).run -/
def fn214 : Fn := ⟨3, 9, [0, 1, 2, 5, 6, 7, 8, 9, 17], [.cell 4 5 true, .r 5],
  .seq (.reg false [⟨none, .box (.r 0)⟩,
    ⟨none, .box (.r 2)⟩,
    ⟨none, .new [.bool false, .int .u8 0, .int .i64 0, .nils, .nils]⟩,
    ⟨none, .mov (.v (.c (.d (.int .i64 0))))⟩] [(3, 2), (4, 1), (5, 0)] []) (
  .seq (.reg false [⟨none, .mov (.r 1)⟩,
    ⟨none, .ld true 4 (.r 3)⟩,
    ⟨none, .vc 215 [(.l 1), (.l 0)]⟩,
    ⟨none, .mov (.l 0)⟩,
    ⟨none, .ext (.l 0) 0⟩,
    ⟨none, .ext (.l 1) 1⟩,
    ⟨none, .pre⟩,
    ⟨none, .ini 20 (.l 2)⟩,
    ⟨none, .mov (.l 2)⟩] [(6, 1), (7, 0)] []) (
  .seq (.seq (.reg false [⟨none, .mov (.r 7)⟩,
    ⟨none, .bin .neq (.l 0) (.v (.c (.d (.int .i64 0))))⟩] [(8, 0)] []) (
  .cond (.r 8) (
  .seq (.reg false [⟨none, .bld [.bool false, .int .u8 0, .int .i64 0, .nils, .nils] []⟩,
    ⟨none, .mov (.r 7)⟩,
    ⟨none, .st 5 (.r 4) (.l 1)⟩,
    ⟨none, .mov (.l 1)⟩] [(5, 0)] []) (
  .ret)) (
  .skip))) (
  .seq (.reg false [⟨none, .ld true 20 (.r 6)⟩,
    ⟨none, .vc 216 [(.l 0)]⟩,
    ⟨none, .ext (.l 0) 0⟩,
    ⟨none, .ext (.l 1) 1⟩,
    ⟨none, .st 5 (.r 4) (.l 1)⟩,
    ⟨none, .mov (.l 1)⟩] [(5, 0)] []) (
  .ret))))⟩

def fn215L0 : I := .seq (.seq (.reg false [⟨none, .mov (.r 7)⟩,
    ⟨none, .bin .eql (.l 0) (.v (.c (.d (.int .i64 0))))⟩,
    ⟨none, .mov (.l 0)⟩,
    ⟨some (0, true), .mov (.r 8)⟩,
    ⟨some (1, true), .mov (.r 0)⟩,
    ⟨some (2, true), .len (.l 0)⟩,
    ⟨some (3, true), .bin .lss (.l 2) (.l 0)⟩,
    ⟨none, .pick (.l 4) (.l 0) (.v (.c (.d (.bool false))))⟩,
    ⟨none, .mov (.l 0)⟩,
    ⟨some (0, true), .fa 19 (.r 6)⟩,
    ⟨some (1, true), .ld false 1 (.l 0)⟩,
    ⟨some (2, true), .bin .eql (.l 0) (.v (.c (.d (.int .u8 0))))⟩,
    ⟨none, .pick (.l 3) (.l 0) (.v (.c (.d (.bool false))))⟩] [(10, 0)] []) (
  .cond (.r 10) (
  .skip) (
  .exit 0))) (
  .seq (.block 1 (
  .seq (.reg true [⟨none, .ld true 20 (.r 6)⟩,
    ⟨none, .mov (.r 0)⟩,
    ⟨none, .mov (.r 8)⟩,
    ⟨none, .ixa 8 (.l 1) (.l 0)⟩,
    ⟨none, .ld true 8 (.l 0)⟩,
    ⟨none, .hc (.v (.c (.d (.fn 218 [] [])))) [(.l 4), (.l 0)]⟩,
    ⟨none, .mov (.l 0)⟩,
    ⟨none, .ext (.l 0) 0⟩,
    ⟨none, .ext (.l 1) 1⟩,
    ⟨none, .st 20 (.r 6) (.l 1)⟩,
    ⟨none, .mov (.l 1)⟩] [(7, 0)] []) (
  .seq (.reg false [⟨none, .mov (.r 7)⟩,
    ⟨none, .bin .eql (.l 0) (.v (.c (.d (.int .i64 0))))⟩,
    ⟨none, .mov (.l 0)⟩,
    ⟨some (0, true), .fa 18 (.r 6)⟩,
    ⟨some (1, true), .ld false 1 (.l 0)⟩,
    ⟨none, .pick (.l 2) (.l 0) (.v (.c (.d (.bool false))))⟩] [(11, 0)] []) (
  .cond (.r 11) (
  .reg false [⟨none, .ld true 20 (.r 6)⟩,
    ⟨none, .hc (.v (.c (.d (.fn 219 [] [])))) [(.l 0)]⟩,
    ⟨none, .mov (.l 0)⟩,
    ⟨none, .ext (.l 0) 0⟩,
    ⟨none, .ext (.l 1) 1⟩,
    ⟨none, .st 20 (.r 6) (.l 1)⟩,
    ⟨none, .mov (.l 1)⟩] [(7, 0)] []) (
  .skip))))) (
  .reg false [⟨none, .mov (.r 8)⟩,
    ⟨none, .bin .add (.l 0) (.v (.c (.d (.int .i64 1))))⟩,
    ⟨none, .mov (.l 0)⟩] [(8, 0)] []))
/-- vidimus/graphs.Run -/
def fn215 : Fn := ⟨2, 13, [0, 1, 3, 4, 5, 6, 7, 8, 9, 13, 35, 52, 59], [.cell 3 20 true, .r 4],
  .seq (.reg false [⟨none, .box (.r 1)⟩,
    ⟨none, .new [.int .i64 0, .nils, .bool false, .bool false, .bool false, .bool false, .bool false, .nils, .bool false, .nils, .int .i64 0, .int .i64 0, .int .i64 0, .nils, .int .i64 0, .int .i64 0, .int .i64 0, .int .i64 0, .bool false, .int .u8 0]⟩,
    ⟨none, .mov (.v (.c (.d (.int .i64 0))))⟩] [(2, 2), (3, 1), (4, 0)] []) (
  .seq (.seq (.reg false [⟨none, .mov (.r 0)⟩,
    ⟨none, .vc 91 [(.l 0)]⟩,
    ⟨none, .mov (.l 0)⟩] [(5, 0)] []) (
  .seq (.reg false [⟨none, .mov (.r 5)⟩,
    ⟨none, .bin .neq (.l 0) (.v (.c (.d (.int .i64 0))))⟩] [(9, 0)] []) (
  .cond (.r 9) (
  .seq (.reg false [⟨none, .bld [.int .i64 0, .nils, .bool false, .bool false, .bool false, .bool false, .bool false, .nils, .bool false, .nils, .int .i64 0, .int .i64 0, .int .i64 0, .nils, .int .i64 0, .int .i64 0, .int .i64 0, .int .i64 0, .bool false, .int .u8 0] []⟩,
    ⟨none, .mov (.r 5)⟩,
    ⟨none, .st 20 (.r 3) (.l 1)⟩,
    ⟨none, .mov (.l 1)⟩] [(4, 0)] []) (
  .ret)) (
  .skip)))) (
  .seq (.reg false [⟨none, .mov (.r 0)⟩,
    ⟨none, .len (.l 0)⟩,
    ⟨none, .ld true 4 (.r 2)⟩,
    ⟨none, .hc (.v (.c (.d (.fn 217 [] [])))) [(.l 1), (.l 0)]⟩,
    ⟨none, .mov (.l 0)⟩,
    ⟨none, .ext (.l 0) 0⟩,
    ⟨none, .ext (.l 1) 1⟩,
    ⟨none, .pre⟩,
    ⟨none, .ini 20 (.l 2)⟩,
    ⟨none, .mov (.l 2)⟩] [(6, 1), (7, 0)] []) (
  .seq (.seq (.reg false [⟨none, .mov (.v (.c (.d (.int .i64 0))))⟩] [(8, 0)] []) (
  .block 0 (
  .loop (some [0, 3, 6, 7, 8]) fn215L0))) (
  .seq (.seq (.reg false [⟨none, .mov (.r 7)⟩,
    ⟨none, .bin .neq (.l 0) (.v (.c (.d (.int .i64 0))))⟩] [(12, 0)] []) (
  .cond (.r 12) (
  .seq (.reg false [⟨none, .bld [.int .i64 0, .nils, .bool false, .bool false, .bool false, .bool false, .bool false, .nils, .bool false, .nils, .int .i64 0, .int .i64 0, .int .i64 0, .nils, .int .i64 0, .int .i64 0, .int .i64 0, .int .i64 0, .bool false, .int .u8 0] []⟩,
    ⟨none, .mov (.r 7)⟩,
    ⟨none, .st 20 (.r 3) (.l 1)⟩,
    ⟨none, .mov (.l 1)⟩] [(4, 0)] []) (
  .ret)) (
  .skip))) (
  .seq (.reg false [⟨none, .ld true 20 (.r 6)⟩,
    ⟨none, .st 20 (.r 3) (.l 0)⟩,
    ⟨none, .mov (.v (.c (.d (.int .i64 0))))⟩] [(4, 0)] []) (
  .ret))))))⟩

/-- vidimus/extracts.Finish -/
def fn216 : Fn := ⟨1, 12, [0, 1, 2, 3, 4, 5, 6, 8, 12, 18, 50, 60], [.cell 2 5 true, .r 3],
  .seq (.reg false [⟨none, .box (.r 0)⟩,
    ⟨none, .new [.bool false, .int .u8 0, .int .i64 0, .nils, .nils]⟩,
    ⟨none, .mov (.v (.c (.d (.int .i64 0))))⟩] [(1, 2), (2, 1), (3, 0)] []) (
  .seq (.reg false [⟨none, .new [.int .i64 0]⟩] [(4, 0)] []) (
  .seq (.seq (.reg false [⟨none, .ld true 20 (.r 1)⟩,
    ⟨none, .vc 221 [(.l 0)]⟩,
    ⟨none, .mki (.r 4)⟩,
    ⟨none, .vc 220 [(.l 1), (.l 0)]⟩] [(8, 0)] []) (
  .cond (.r 8) (
  .seq (.reg true [⟨none, .bld [.bool false, .int .u8 0, .int .i64 0, .nils, .nils] []⟩,
    ⟨none, .fa 0 (.r 4)⟩,
    ⟨none, .ld false 1 (.l 0)⟩,
    ⟨none, .st 5 (.r 2) (.l 2)⟩,
    ⟨none, .mov (.l 1)⟩] [(3, 0)] [((.l 3), (.r 2))]) (
  .ret)) (
  .skip))) (
  .seq (.seq (.reg false [⟨none, .ld true 20 (.r 1)⟩,
    ⟨none, .vc 222 [(.l 0)]⟩,
    ⟨none, .bin .neq (.l 0) (.v (.c (.d (.int .u8 0))))⟩] [(9, 0)] []) (
  .cond (.r 9) (
  .seq (.reg true [⟨none, .ld true 20 (.r 1)⟩,
    ⟨none, .vc 222 [(.l 0)]⟩,
    ⟨none, .ld true 20 (.r 1)⟩,
    ⟨none, .vc 223 [(.l 0)]⟩,
    ⟨none, .bin .sub (.l 0) (.v (.c (.d (.int .i64 1))))⟩,
    ⟨none, .bld [.bool false, .int .u8 0, .int .i64 0, .nils, .nils] [(1, 1, (.l 3)), (2, 1, (.l 0))]⟩,
    ⟨none, .st 5 (.r 2) (.l 0)⟩,
    ⟨none, .mov (.v (.c (.d (.int .i64 0))))⟩] [(3, 0)] []) (
  .ret)) (
  .skip))) (
  .seq (.reg false [⟨none, .ld true 20 (.r 1)⟩,
    ⟨none, .vc 225 [(.l 0)]⟩,
    ⟨none, .vc 224 [(.l 0)]⟩,
    ⟨none, .pre⟩,
    ⟨none, .ini 3 (.l 1)⟩] [(5, 0)] []) (
  .seq (.reg true [⟨none, .ld true 20 (.r 1)⟩,
    ⟨none, .vc 227 [(.l 0)]⟩,
    ⟨none, .ld true 20 (.r 1)⟩,
    ⟨none, .vc 228 [(.l 0)]⟩,
    ⟨none, .vc 226 [(.l 2), (.l 0)]⟩,
    ⟨none, .mov (.l 0)⟩,
    ⟨none, .ext (.l 0) 0⟩,
    ⟨none, .ext (.l 1) 1⟩,
    ⟨none, .mov (.l 1)⟩,
    ⟨none, .mov (.l 1)⟩] [(6, 1)] []) (
  .seq (.regk true [⟨none, .ld true 3 (.r 5)⟩,
    ⟨none, .hc (.v (.c (.d (.fn 230 [] [])))) [(.l 0)]⟩,
    ⟨none, .hc (.v (.c (.d (.fn 229 [] [])))) [(.l 0)]⟩,
    ⟨none, .ld true 3 (.r 5)⟩,
    ⟨none, .ld true 20 (.r 1)⟩,
    ⟨none, .vc 232 [(.l 0)]⟩,
    ⟨none, .fld false 0 1 (.l 0)⟩,
    ⟨none, .vc 231 [(.l 3), (.l 0)]⟩,
    ⟨none, .bld [.bool false, .int .u8 0, .int .i64 0, .nils, .nils] [(3, 1, (.l 5)), (4, 1, (.l 0))]⟩,
    ⟨none, .pre⟩,
    ⟨none, .ini 5 (.l 1)⟩] [(7, 0)] [1, 5] []) (
  .seq (.block 0 (
  .seq (.reg false [⟨none, .mov (.r 6)⟩,
    ⟨none, .bin .gtr (.l 0) (.v (.c (.d (.int .i64 0))))⟩,
    ⟨none, .mov (.l 0)⟩,
    ⟨some (0, false), .fa 4 (.r 7)⟩,
    ⟨some (1, false), .ld false 1 (.l 0)⟩,
    ⟨some (2, false), .len (.l 0)⟩,
    ⟨some (3, false), .bin .gtr (.l 0) (.v (.c (.d (.int .i64 0))))⟩,
    ⟨none, .pick (.l 4) (.v (.c (.d (.bool true)))) (.l 0)⟩,
    ⟨none, .mov (.l 0)⟩] [(10, 0)] []) (
  .cond (.r 10) (
  .reg false [⟨none, .fa 0 (.r 7)⟩,
    ⟨none, .st 1 (.l 0) (.v (.c (.d (.bool true))))⟩] [] []) (
  .seq (.reg false [⟨none, .fa 3 (.r 7)⟩,
    ⟨none, .ld false 1 (.l 0)⟩,
    ⟨none, .len (.l 0)⟩,
    ⟨none, .bin .eql (.l 0) (.v (.c (.d (.int .i64 0))))⟩,
    ⟨none, .mov (.l 0)⟩] [(11, 0)] []) (
  .cond (.r 11) (
  .reg false [⟨none, .ld true 20 (.r 1)⟩,
    ⟨none, .vc 233 [(.l 0)]⟩,
    ⟨none, .bin .sub (.l 0) (.v (.c (.d (.int .i64 1))))⟩,
    ⟨none, .fa 1 (.r 7)⟩,
    ⟨none, .st 1 (.l 0) (.v (.c (.d (.int .u8 2))))⟩,
    ⟨none, .fa 2 (.r 7)⟩,
    ⟨none, .st 1 (.l 0) (.l 3)⟩] [] []) (
  .reg false [⟨none, .ld true 20 (.r 1)⟩,
    ⟨none, .vc 233 [(.l 0)]⟩,
    ⟨none, .bin .sub (.l 0) (.v (.c (.d (.int .i64 1))))⟩,
    ⟨none, .fa 1 (.r 7)⟩,
    ⟨none, .st 1 (.l 0) (.v (.c (.d (.int .u8 3))))⟩,
    ⟨none, .fa 2 (.r 7)⟩,
    ⟨none, .st 1 (.l 0) (.l 3)⟩] [] [])))))) (
  .seq (.reg false [⟨none, .ld true 5 (.r 7)⟩,
    ⟨none, .st 5 (.r 2) (.l 0)⟩,
    ⟨none, .mov (.v (.c (.d (.int .i64 0))))⟩] [(3, 0)] []) (
  .ret)))))))))⟩

/-- vidimus/graphs.Start -/
def fn217 : Fn := ⟨2, 9, [0, 1, 3, 4, 5, 6, 7, 8, 16], [.cell 3 20 true, .r 4],
  .seq (.reg false [⟨none, .box (.r 1)⟩,
    ⟨none, .new [.int .i64 0, .nils, .bool false, .bool false, .bool false, .bool false, .bool false, .nils, .bool false, .nils, .int .i64 0, .int .i64 0, .int .i64 0, .nils, .int .i64 0, .int .i64 0, .int .i64 0, .int .i64 0, .bool false, .int .u8 0]⟩,
    ⟨none, .mov (.v (.c (.d (.int .i64 0))))⟩] [(2, 2), (3, 1), (4, 0)] []) (
  .seq (.reg false [⟨none, .mov (.r 0)⟩,
    ⟨none, .ld true 4 (.r 2)⟩,
    ⟨none, .vc 234 [(.l 1), (.l 0)]⟩,
    ⟨none, .mov (.l 0)⟩,
    ⟨none, .ext (.l 0) 0⟩,
    ⟨none, .ext (.l 1) 1⟩,
    ⟨none, .pre⟩,
    ⟨none, .ini 3 (.l 2)⟩,
    ⟨none, .mov (.l 2)⟩] [(5, 1), (6, 0)] []) (
  .seq (.seq (.reg false [⟨none, .mov (.r 6)⟩,
    ⟨none, .bin .neq (.l 0) (.v (.c (.d (.int .i64 0))))⟩] [(8, 0)] []) (
  .cond (.r 8) (
  .seq (.reg false [⟨none, .bld [.int .i64 0, .nils, .bool false, .bool false, .bool false, .bool false, .bool false, .nils, .bool false, .nils, .int .i64 0, .int .i64 0, .int .i64 0, .nils, .int .i64 0, .int .i64 0, .int .i64 0, .int .i64 0, .bool false, .int .u8 0] []⟩,
    ⟨none, .mov (.r 6)⟩,
    ⟨none, .st 20 (.r 3) (.l 1)⟩,
    ⟨none, .mov (.l 1)⟩] [(4, 0)] []) (
  .ret)) (
  .skip))) (
  .seq (.reg false [⟨none, .fa 0 (.r 2)⟩,
    ⟨none, .ld false 1 (.l 0)⟩,
    ⟨none, .hc (.v (.c (.d (.fn 235 [] [])))) [(.l 0)]⟩,
    ⟨none, .fa 0 (.r 2)⟩,
    ⟨none, .st 1 (.l 0) (.l 1)⟩] [] []) (
  .seq (.reg false [⟨none, .vc 95 []⟩,
    ⟨none, .vc 95 []⟩,
    ⟨none, .bsl 1 17 [.int .u8 0, .int .u32 0, .int .u32 0, .int .u32 0, .int .u32 0, .int .u32 0, .int .u32 0, .int .u32 0, .int .u32 0, .int .u32 0, .int .u32 0, .int .u32 0, .int .u32 0, .int .u32 0, .int .u32 0, .int .u32 0, .int .u32 0] [(0, 17, (.l 0))]⟩,
    ⟨none, .bld [.int .u8 0, .int .u32 0, .int .u32 0, .int .u32 0, .int .u32 0, .int .u32 0, .int .u32 0, .int .u32 0, .int .u32 0, .int .u32 0, .int .u32 0, .int .u32 0, .int .u32 0, .int .u32 0, .int .u32 0, .int .u32 0, .int .u32 0, .nils, .nils, .nils] [(0, 17, (.l 2)), (18, 1, (.l 0))]⟩,
    ⟨none, .bsl 1 20 [.int .u8 0, .int .u32 0, .int .u32 0, .int .u32 0, .int .u32 0, .int .u32 0, .int .u32 0, .int .u32 0, .int .u32 0, .int .u32 0, .int .u32 0, .int .u32 0, .int .u32 0, .int .u32 0, .int .u32 0, .int .u32 0, .int .u32 0, .nils, .nils, .nils] [(0, 20, (.l 0))]⟩,
    ⟨none, .bld [.nils] [(0, 1, (.l 0))]⟩,
    ⟨none, .pre⟩,
    ⟨none, .ini 1 (.l 1)⟩] [(7, 0)] []) (
  .seq (.reg false [⟨none, .mov (.r 0)⟩,
    ⟨none, .ld true 4 (.r 2)⟩,
    ⟨none, .ld true 1 (.r 7)⟩,
    ⟨none, .bsl 1 1 [.nils] [(0, 1, (.l 0))]⟩,
    ⟨none, .ld true 3 (.r 5)⟩,
    ⟨none, .bld [.int .i64 0, .nils, .bool false, .bool false, .bool false, .bool false, .bool false, .nils, .bool false, .nils, .int .i64 0, .int .i64 0, .int .i64 0, .nils, .int .i64 0, .int .i64 0, .int .i64 0, .int .i64 0, .bool false, .int .u8 0] [(0, 1, (.l 4)), (1, 4, (.l 3)), (13, 1, (.l 1)), (14, 3, (.l 0))]⟩,
    ⟨none, .st 20 (.r 3) (.l 0)⟩,
    ⟨none, .mov (.v (.c (.d (.int .i64 0))))⟩] [(4, 0)] []) (
  .ret))))))⟩

/-- (vidimus/graphs.State).Step -/
def fn218 : Fn := ⟨2, 14, [0, 1, 2, 3, 4, 5, 6, 7, 8, 9, 10, 14, 20, 77], [.cell 4 20 true, .r 5],
  .seq (.reg false [⟨none, .box (.r 0)⟩,
    ⟨none, .box (.r 1)⟩,
    ⟨none, .new [.int .i64 0, .nils, .bool false, .bool false, .bool false, .bool false, .bool false, .nils, .bool false, .nils, .int .i64 0, .int .i64 0, .int .i64 0, .nils, .int .i64 0, .int .i64 0, .int .i64 0, .int .i64 0, .bool false, .int .u8 0]⟩,
    ⟨none, .mov (.v (.c (.d (.int .i64 0))))⟩] [(2, 3), (3, 2), (4, 1), (5, 0)] []) (
  .seq (.seq (.reg false [⟨none, .ld true 20 (.r 2)⟩,
    ⟨none, .vc 236 [(.l 0), (.v (.c (.d (.bool false))))]⟩,
    ⟨none, .mov (.l 0)⟩] [(6, 0)] []) (
  .seq (.reg false [⟨none, .mov (.r 6)⟩,
    ⟨none, .bin .neq (.l 0) (.v (.c (.d (.int .i64 0))))⟩] [(11, 0)] []) (
  .cond (.r 11) (
  .seq (.reg false [⟨none, .bld [.int .i64 0, .nils, .bool false, .bool false, .bool false, .bool false, .bool false, .nils, .bool false, .nils, .int .i64 0, .int .i64 0, .int .i64 0, .nils, .int .i64 0, .int .i64 0, .int .i64 0, .int .i64 0, .bool false, .int .u8 0] []⟩,
    ⟨none, .mov (.r 6)⟩,
    ⟨none, .st 20 (.r 4) (.l 1)⟩,
    ⟨none, .mov (.l 1)⟩] [(5, 0)] []) (
  .ret)) (
  .skip)))) (
  .seq (.seq (.reg false [⟨none, .ld true 8 (.r 3)⟩,
    ⟨none, .vc 84 [(.l 0)]⟩,
    ⟨none, .mov (.l 0)⟩] [(7, 0)] []) (
  .seq (.reg false [⟨none, .mov (.r 7)⟩,
    ⟨none, .bin .neq (.l 0) (.v (.c (.d (.int .i64 0))))⟩] [(12, 0)] []) (
  .cond (.r 12) (
  .seq (.reg false [⟨none, .bld [.int .i64 0, .nils, .bool false, .bool false, .bool false, .bool false, .bool false, .nils, .bool false, .nils, .int .i64 0, .int .i64 0, .int .i64 0, .nils, .int .i64 0, .int .i64 0, .int .i64 0, .int .i64 0, .bool false, .int .u8 0] []⟩,
    ⟨none, .mov (.r 7)⟩,
    ⟨none, .st 20 (.r 4) (.l 1)⟩,
    ⟨none, .mov (.l 1)⟩] [(5, 0)] []) (
  .ret)) (
  .skip)))) (
  .seq (.reg false [⟨none, .fa 13 (.r 2)⟩,
    ⟨none, .ld false 1 (.l 0)⟩,
    ⟨none, .len (.l 0)⟩,
    ⟨none, .mov (.l 0)⟩] [(8, 0)] []) (
  .seq (.reg true [⟨none, .fa 13 (.r 2)⟩,
    ⟨none, .ld false 1 (.l 0)⟩,
    ⟨none, .mov (.r 8)⟩,
    ⟨none, .bin .sub (.l 0) (.v (.c (.d (.int .i64 1))))⟩,
    ⟨none, .ixa 1 (.l 2) (.l 0)⟩,
    ⟨none, .ld true 1 (.l 0)⟩,
    ⟨none, .ld true 8 (.r 3)⟩,
    ⟨none, .fa 14 (.r 2)⟩,
    ⟨none, .fa 2 (.l 0)⟩,
    ⟨none, .ld false 1 (.l 0)⟩,
    ⟨none, .bin .gtr (.l 0) (.v (.c (.d (.int .i64 0))))⟩,
    ⟨none, .mov (.l 0)⟩,
    ⟨some (0, false), .mov (.r 8)⟩,
    ⟨some (1, false), .fa 0 (.r 2)⟩,
    ⟨some (2, false), .ld false 1 (.l 0)⟩,
    ⟨some (3, false), .bin .lss (.l 2) (.l 0)⟩,
    ⟨some (4, false), .mov (.l 0)⟩,
    ⟨some (0, true), .fa 0 (.r 3)⟩,
    ⟨some (1, true), .ld false 1 (.l 0)⟩,
    ⟨some (7, false), .pick (.l 2) (.l 0) (.v (.c (.d (.bool false))))⟩,
    ⟨none, .pick (.l 8) (.v (.c (.d (.bool true)))) (.l 0)⟩,
    ⟨none, .vc 237 [(.l 15), (.l 14), (.l 0)]⟩,
    ⟨none, .mov (.l 0)⟩,
    ⟨none, .ext (.l 0) 0⟩,
    ⟨none, .ext (.l 1) 1⟩,
    ⟨none, .pre⟩,
    ⟨none, .ini 1 (.l 2)⟩,
    ⟨none, .mov (.l 2)⟩] [(9, 1), (10, 0)] []) (
  .seq (.reg true [⟨none, .fa 13 (.r 2)⟩,
    ⟨none, .ld false 1 (.l 0)⟩,
    ⟨none, .mov (.r 8)⟩,
    ⟨none, .mov (.r 8)⟩,
    ⟨none, .slc 1 (.l 2) none (some (.l 1)) (some (.l 0))⟩,
    ⟨none, .ld true 1 (.r 9)⟩,
    ⟨none, .bsl 1 1 [.nils] [(0, 1, (.l 0))]⟩,
    ⟨none, .app 1 (.l 2) (.l 0)⟩,
    ⟨none, .fa 13 (.r 2)⟩,
    ⟨none, .st 1 (.l 0) (.l 1)⟩] [] []) (
  .seq (.reg false [⟨none, .ld true 8 (.r 3)⟩,
    ⟨none, .vc 238 [(.l 0)]⟩,
    ⟨none, .fa 5 (.r 2)⟩,
    ⟨none, .st 8 (.l 0) (.l 1)⟩] [] []) (
  .seq (.reg false [⟨none, .fa 17 (.r 2)⟩,
    ⟨none, .ld false 1 (.l 0)⟩,
    ⟨none, .mov (.r 10)⟩,
    ⟨none, .bin .add (.l 1) (.l 0)⟩,
    ⟨none, .fa 17 (.r 2)⟩,
    ⟨none, .st 1 (.l 0) (.l 1)⟩] [] []) (
  .seq (.seq (.reg false [⟨none, .fa 14 (.r 2)⟩,
    ⟨none, .fa 0 (.l 0)⟩,
    ⟨none, .ld false 1 (.l 0)⟩,
    ⟨none, .bin .eql (.l 0) (.v (.c (.d (.int .i64 0))))⟩,
    ⟨none, .mov (.l 0)⟩,
    ⟨some (0, true), .fa 0 (.r 9)⟩,
    ⟨some (1, true), .ld false 1 (.l 0)⟩,
    ⟨some (2, true), .len (.l 0)⟩,
    ⟨some (3, true), .bin .eql (.l 0) (.v (.c (.d (.int .i64 0))))⟩,
    ⟨none, .pick (.l 4) (.l 0) (.v (.c (.d (.bool false))))⟩] [(13, 0)] []) (
  .cond (.r 13) (
  .seq (.reg false [⟨none, .fa 19 (.r 2)⟩,
    ⟨none, .st 1 (.l 0) (.v (.c (.d (.int .u8 2))))⟩] [] []) (
  .seq (.reg false [⟨none, .ld true 20 (.r 2)⟩,
    ⟨none, .st 20 (.r 4) (.l 0)⟩,
    ⟨none, .mov (.v (.c (.d (.int .i64 0))))⟩] [(5, 0)] []) (
  .ret))) (
  .skip))) (
  .seq (.reg false [⟨none, .mov (.r 8)⟩,
    ⟨none, .fa 0 (.r 2)⟩,
    ⟨none, .ld false 1 (.l 0)⟩,
    ⟨none, .bin .lss (.l 2) (.l 0)⟩,
    ⟨none, .fa 18 (.r 2)⟩,
    ⟨none, .st 1 (.l 0) (.l 1)⟩] [] []) (
  .seq (.reg false [⟨none, .ld true 20 (.r 2)⟩,
    ⟨none, .st 20 (.r 4) (.l 0)⟩,
    ⟨none, .mov (.v (.c (.d (.int .i64 0))))⟩] [(5, 0)] []) (
  .ret)))))))))))⟩

/-- errors.As -/
def fn220 : Fn := ⟨2, 10, [0, 1, 4, 5, 6, 7, 9, 11, 23, 35], [.r 2],
  .seq (.reg false [⟨none, .mov (.v (.c (.d (.bool false))))⟩] [(2, 0)] []) (
  .seq (.seq (.reg false [⟨none, .mov (.r 0)⟩,
    ⟨none, .isn false (.l 0)⟩] [(6, 0)] []) (
  .cond (.r 6) (
  .seq (.reg false [⟨none, .mov (.v (.c (.d (.bool false))))⟩] [(2, 0)] []) (
  .ret)) (
  .skip))) (
  .seq (.seq (.reg false [⟨none, .mov (.r 1)⟩,
    ⟨none, .isn false (.l 0)⟩] [(7, 0)] []) (
  .cond (.r 7) (
  .bad) (
  .skip))) (
  .seq (.reg false [⟨none, .mov (.r 1)⟩,
    ⟨none, .vc 242 [(.l 0)]⟩,
    ⟨none, .pre⟩,
    ⟨none, .ini 3 (.l 1)⟩] [(3, 0)] []) (
  .seq (.reg false [⟨none, .ld true 3 (.r 3)⟩,
    ⟨none, .vc 243 [(.l 0)]⟩,
    ⟨none, .mov (.l 0)⟩] [(4, 0)] []) (
  .seq (.seq (.bad) (
  .cond (.r 8) (
  .bad) (
  .skip))) (
  .seq (.bad) (
  .seq (.seq (.bad) (
  .cond (.r 9) (
  .bad) (
  .skip))) (
  .seq (.reg false [⟨none, .mov (.r 0)⟩,
    ⟨none, .mov (.r 1)⟩,
    ⟨none, .ld true 3 (.r 3)⟩,
    ⟨none, .mov (.r 5)⟩,
    ⟨none, .vc 245 [(.l 3), (.l 2), (.l 1), (.l 0)]⟩,
    ⟨none, .mov (.l 0)⟩] [(2, 0)] []) (
  .ret)))))))))⟩

/-- vidimus/extracts.finished -/
def fn221 : Fn := ⟨1, 5, [0, 1, 2, 3, 9], [.r 2],
  .seq (.reg false [⟨none, .box (.r 0)⟩,
    ⟨none, .mov (.v (.c (.d (.nili))))⟩] [(1, 1), (2, 0)] []) (
  .seq (.block 0 (
  .seq (.reg false [⟨none, .ld true 20 (.r 1)⟩,
    ⟨none, .vc 233 [(.l 0)]⟩,
    ⟨none, .bin .eql (.l 0) (.v (.c (.d (.int .i64 0))))⟩,
    ⟨none, .mov (.l 0)⟩] [(3, 0)] []) (
  .cond (.r 3) (
  .seq (.reg false [⟨none, .bld [.int .i64 0] [(0, 1, (.v (.c (.d (.int .i64 2)))))]⟩,
    ⟨none, .mki (.l 0)⟩,
    ⟨none, .mov (.l 0)⟩] [(2, 0)] []) (
  .ret)) (
  .seq (.reg true [⟨none, .ld true 20 (.r 1)⟩,
    ⟨none, .vc 222 [(.l 0)]⟩,
    ⟨none, .bin .eql (.l 0) (.v (.c (.d (.int .u8 0))))⟩,
    ⟨none, .mov (.l 0)⟩,
    ⟨some (0, true), .ld true 20 (.r 1)⟩,
    ⟨some (1, true), .vc 246 [(.l 0)]⟩,
    ⟨some (2, true), .mov (.l 0)⟩,
    ⟨some (0, false), .ld true 20 (.r 1)⟩,
    ⟨some (1, false), .vc 223 [(.l 0)]⟩,
    ⟨some (2, false), .ld true 20 (.r 1)⟩,
    ⟨some (3, false), .vc 233 [(.l 0)]⟩,
    ⟨some (4, false), .bin .lss (.l 2) (.l 0)⟩,
    ⟨some (8, true), .pick (.l 5) (.v (.c (.d (.bool true)))) (.l 0)⟩,
    ⟨none, .pick (.l 9) (.l 0) (.v (.c (.d (.bool false))))⟩,
    ⟨none, .mov (.l 0)⟩] [(4, 0)] []) (
  .cond (.r 4) (
  .seq (.reg false [⟨none, .bld [.int .i64 0] [(0, 1, (.v (.c (.d (.int .i64 21)))))]⟩,
    ⟨none, .mki (.l 0)⟩,
    ⟨none, .mov (.l 0)⟩] [(2, 0)] []) (
  .ret)) (
  .skip)))))) (
  .seq (.reg false [⟨none, .mov (.v (.c (.d (.nili))))⟩] [(2, 0)] []) (
  .ret)))⟩

/-- (vidimus/graphs.State).Reason -/
def fn222 : Fn := ⟨1, 3, [0, 1, 2], [.r 2],
  .seq (.reg false [⟨none, .box (.r 0)⟩,
    ⟨none, .mov (.v (.c (.d (.int .u8 0))))⟩] [(1, 1), (2, 0)] []) (
  .seq (.reg false [⟨none, .fa 19 (.r 1)⟩,
    ⟨none, .ld false 1 (.l 0)⟩,
    ⟨none, .mov (.l 0)⟩] [(2, 0)] []) (
  .ret))⟩

/-- (vidimus/graphs.State).Index -/
def fn223 : Fn := ⟨1, 3, [0, 1, 2], [.r 2],
  .seq (.reg false [⟨none, .box (.r 0)⟩,
    ⟨none, .mov (.v (.c (.d (.int .i64 0))))⟩] [(1, 1), (2, 0)] []) (
  .seq (.reg false [⟨none, .fa 13 (.r 1)⟩,
    ⟨none, .ld false 1 (.l 0)⟩,
    ⟨none, .len (.l 0)⟩,
    ⟨none, .bin .sub (.l 0) (.v (.c (.d (.int .i64 1))))⟩,
    ⟨none, .mm true (.l 0) (.v (.c (.d (.int .i64 0))))⟩,
    ⟨none, .mov (.l 0)⟩] [(2, 0)] []) (
  .ret))⟩

def fn224L0 : I := .seq (.reg false [⟨none, .bin .lss (.r 15) (.r 14)⟩] [(16, 0)] []) (
  .seq (.cond (.r 16) (
  .skip) (
  .exit 2)) (
  .seq (.block 3 (
  .seq (.reg false [⟨none, .mov (.r 15)⟩,
    ⟨none, .ixa 20 (.r 13) (.r 15)⟩,
    ⟨none, .ld true 20 (.l 0)⟩,
    ⟨none, .pre⟩,
    ⟨none, .mov (.l 3)⟩,
    ⟨none, .ini 20 (.l 2)⟩] [(6, 1), (7, 0)] []) (
  .seq (.reg false [⟨none, .ld false 1 (.r 4)⟩,
    ⟨none, .bin .eql (.l 0) (.v (.c (.d (.int .i64 0))))⟩,
    ⟨none, .mov (.l 0)⟩,
    ⟨some (0, false), .fa 17 (.r 7)⟩,
    ⟨some (1, false), .ld false 1 (.l 0)⟩,
    ⟨some (2, false), .mkf 248 [] [(.r 3), (.r 4)]⟩,
    ⟨some (3, false), .vc 247 [(.l 1), (.l 0)]⟩,
    ⟨none, .pick (.l 4) (.v (.c (.d (.bool true)))) (.l 0)⟩,
    ⟨none, .mov (.l 0)⟩] [(8, 0)] []) (
  .seq (.reg true [⟨none, .fa 1 (.r 3)⟩,
    ⟨none, .ld false 1 (.l 0)⟩,
    ⟨none, .ld false 1 (.r 4)⟩,
    ⟨none, .ixa 1 (.l 1) (.l 0)⟩,
    ⟨none, .ld false 1 (.l 0)⟩,
    ⟨none, .mov (.r 6)⟩,
    ⟨none, .mov (.r 8)⟩,
    ⟨none, .mov (.l 0)⟩,
    ⟨some (0, true), .fa 0 (.r 7)⟩,
    ⟨some (1, true), .ld true 17 (.l 0)⟩,
    ⟨some (2, true), .vc 95 []⟩,
    ⟨some (3, true), .eqa false 17 (.l 1) (.l 0)⟩,
    ⟨none, .pick (.l 4) (.l 0) (.v (.c (.d (.bool false))))⟩,
    ⟨none, .ixa 1 (.l 8) (.l 7)⟩,
    ⟨none, .st 1 (.l 0) (.l 1)⟩] [] []) (
  .reg true [⟨none, .fa 2 (.r 3)⟩,
    ⟨none, .ld false 1 (.l 0)⟩,
    ⟨none, .ld false 1 (.r 4)⟩,
    ⟨none, .ixa 1 (.l 1) (.l 0)⟩,
    ⟨none, .ld false 1 (.l 0)⟩,
    ⟨none, .mov (.r 6)⟩,
    ⟨none, .mov (.r 8)⟩,
    ⟨none, .mov (.l 0)⟩,
    ⟨some (0, true), .fa 0 (.r 7)⟩,
    ⟨some (1, true), .ld true 17 (.l 0)⟩,
    ⟨some (2, true), .vc 95 []⟩,
    ⟨some (3, true), .eqa true 17 (.l 1) (.l 0)⟩,
    ⟨none, .pick (.l 4) (.l 0) (.v (.c (.d (.bool false))))⟩,
    ⟨none, .ixa 1 (.l 8) (.l 7)⟩,
    ⟨none, .st 1 (.l 0) (.l 1)⟩] [] []))))) (
  .reg false [⟨none, .bin .add (.r 15) (.v (.c (.d (.int .i64 1))))⟩,
    ⟨none, .mov (.l 0)⟩] [(15, 0)] [])))
def fn224L1 : I := .seq (.reg false [⟨none, .bin .lss (.r 11) (.r 10)⟩] [(12, 0)] []) (
  .seq (.cond (.r 12) (
  .skip) (
  .exit 0)) (
  .seq (.block 1 (
  .seq (.reg false [⟨none, .mov (.r 11)⟩,
    ⟨none, .ixa 1 (.r 9) (.r 11)⟩,
    ⟨none, .ld true 1 (.l 0)⟩,
    ⟨none, .pre⟩,
    ⟨none, .pre⟩,
    ⟨none, .ini 1 (.l 4)⟩,
    ⟨none, .ini 1 (.l 3)⟩] [(4, 1), (5, 0)] []) (
  .seq (.reg true [⟨none, .fa 1 (.r 3)⟩,
    ⟨none, .ld false 1 (.l 0)⟩,
    ⟨none, .ld false 1 (.r 4)⟩,
    ⟨none, .fa 0 (.r 5)⟩,
    ⟨none, .ld false 1 (.l 0)⟩,
    ⟨none, .len (.l 0)⟩,
    ⟨none, .mks 1 1 [.bool false] (.l 0) (.l 0)⟩,
    ⟨none, .ixa 1 (.l 5) (.l 4)⟩,
    ⟨none, .st 1 (.l 0) (.l 1)⟩] [] []) (
  .seq (.reg true [⟨none, .fa 2 (.r 3)⟩,
    ⟨none, .ld false 1 (.l 0)⟩,
    ⟨none, .ld false 1 (.r 4)⟩,
    ⟨none, .fa 0 (.r 5)⟩,
    ⟨none, .ld false 1 (.l 0)⟩,
    ⟨none, .len (.l 0)⟩,
    ⟨none, .mks 1 1 [.bool false] (.l 0) (.l 0)⟩,
    ⟨none, .ixa 1 (.l 5) (.l 4)⟩,
    ⟨none, .st 1 (.l 0) (.l 1)⟩] [] []) (
  .seq (.reg false [⟨none, .fa 0 (.r 5)⟩,
    ⟨none, .ld false 1 (.l 0)⟩,
    ⟨none, .len (.l 0)⟩,
    ⟨none, .mov (.v (.c (.d (.int .i64 0))))⟩] [(13, 2), (14, 1), (15, 0)] []) (
  .block 2 (
  .loop (some [2, 3, 4, 9, 10, 11, 13, 14, 15]) fn224L0))))))) (
  .reg false [⟨none, .bin .add (.r 11) (.v (.c (.d (.int .i64 1))))⟩,
    ⟨none, .mov (.l 0)⟩] [(11, 0)] [])))
/-- vidimus/extracts.look -/
def fn224 : Fn := ⟨1, 17, [0, 1, 2, 3, 4, 5, 6, 7, 8, 20, 21, 22, 23, 44, 45, 46, 47], [.cell 2 3 true],
  .seq (.reg false [⟨none, .box (.r 0)⟩,
    ⟨none, .new [.nils, .nils, .nils]⟩] [(1, 1), (2, 0)] []) (
  .seq (.reg true [⟨none, .ld true 1 (.r 1)⟩,
    ⟨none, .fa 0 (.r 1)⟩,
    ⟨none, .ld false 1 (.l 0)⟩,
    ⟨none, .len (.l 0)⟩,
    ⟨none, .mks 1 24 [.nils] (.l 0) (.l 0)⟩,
    ⟨none, .fa 0 (.r 1)⟩,
    ⟨none, .ld false 1 (.l 0)⟩,
    ⟨none, .len (.l 0)⟩,
    ⟨none, .mks 1 24 [.nils] (.l 0) (.l 0)⟩,
    ⟨none, .bld [.nils, .nils, .nils] [(0, 1, (.l 8)), (1, 1, (.l 4)), (2, 1, (.l 0))]⟩,
    ⟨none, .pre⟩,
    ⟨none, .ini 3 (.l 1)⟩] [(3, 0)] []) (
  .seq (.seq (.reg false [⟨none, .fa 0 (.r 1)⟩,
    ⟨none, .ld false 1 (.l 0)⟩,
    ⟨none, .len (.l 0)⟩,
    ⟨none, .mov (.v (.c (.d (.int .i64 0))))⟩] [(9, 2), (10, 1), (11, 0)] []) (
  .block 0 (
  .loop (some [2, 3, 9, 10, 11]) fn224L1))) (
  .seq (.reg false [⟨none, .ld true 3 (.r 3)⟩,
    ⟨none, .st 3 (.r 2) (.l 0)⟩] [] []) (
  .ret))))⟩

def fn225L0 : I := .seq (.reg false [⟨none, .bin .lss (.r 14) (.r 13)⟩] [(15, 0)] []) (
  .seq (.cond (.r 15) (
  .skip) (
  .exit 2)) (
  .seq (.block 3 (
  .seq (.reg false [⟨none, .mov (.r 14)⟩,
    ⟨none, .ixa 20 (.r 12) (.r 14)⟩,
    ⟨none, .ld true 20 (.l 0)⟩,
    ⟨none, .pre⟩,
    ⟨none, .mov (.l 3)⟩,
    ⟨none, .ini 20 (.l 2)⟩] [(6, 1), (7, 0)] []) (
  .reg true [⟨none, .fa 0 (.r 5)⟩,
    ⟨none, .ld false 1 (.l 0)⟩,
    ⟨none, .mov (.r 6)⟩,
    ⟨none, .ld true 20 (.r 7)⟩,
    ⟨none, .vc 250 [(.l 0)]⟩,
    ⟨none, .ixa 20 (.l 3) (.l 2)⟩,
    ⟨none, .st 20 (.l 0) (.l 1)⟩] [] []))) (
  .reg false [⟨none, .bin .add (.r 14) (.v (.c (.d (.int .i64 1))))⟩,
    ⟨none, .mov (.l 0)⟩] [(14, 0)] [])))
def fn225L1 : I := .seq (.reg false [⟨none, .bin .lss (.r 10) (.r 9)⟩] [(11, 0)] []) (
  .seq (.cond (.r 11) (
  .skip) (
  .exit 0)) (
  .seq (.block 1 (
  .seq (.reg false [⟨none, .ixa 1 (.r 8) (.r 10)⟩,
    ⟨none, .ld true 1 (.l 0)⟩,
    ⟨none, .pre⟩,
    ⟨none, .ini 1 (.l 1)⟩] [(4, 0)] []) (
  .seq (.reg false [⟨none, .fa 0 (.r 4)⟩,
    ⟨none, .ld false 1 (.l 0)⟩,
    ⟨none, .hc (.v (.c (.d (.fn 249 [] [])))) [(.l 0)]⟩,
    ⟨none, .bld [.nils] [(0, 1, (.l 0))]⟩,
    ⟨none, .pre⟩,
    ⟨none, .ini 1 (.l 1)⟩] [(5, 0)] []) (
  .seq (.seq (.reg false [⟨none, .fa 0 (.r 5)⟩,
    ⟨none, .ld false 1 (.l 0)⟩,
    ⟨none, .len (.l 0)⟩,
    ⟨none, .mov (.v (.c (.d (.int .i64 0))))⟩] [(12, 2), (13, 1), (14, 0)] []) (
  .block 2 (
  .loop (some [2, 3, 5, 8, 9, 10, 12, 13, 14]) fn225L0))) (
  .reg false [⟨none, .fa 0 (.r 3)⟩,
    ⟨none, .ld false 1 (.l 0)⟩,
    ⟨none, .ld true 1 (.r 5)⟩,
    ⟨none, .bsl 1 1 [.nils] [(0, 1, (.l 0))]⟩,
    ⟨none, .app 1 (.l 2) (.l 0)⟩,
    ⟨none, .fa 0 (.r 3)⟩,
    ⟨none, .st 1 (.l 0) (.l 1)⟩] [] []))))) (
  .reg false [⟨none, .bin .add (.r 10) (.v (.c (.d (.int .i64 1))))⟩,
    ⟨none, .mov (.l 0)⟩] [(10, 0)] [])))
/-- (vidimus/graphs.State).Graph -/
def fn225 : Fn := ⟨1, 16, [0, 1, 2, 3, 5, 6, 7, 8, 10, 11, 12, 13, 21, 22, 23, 24], [.cell 2 1 true],
  .seq (.reg false [⟨none, .box (.r 0)⟩,
    ⟨none, .new [.nils]⟩] [(1, 1), (2, 0)] []) (
  .seq (.reg false [⟨none, .new [.nils]⟩] [(3, 0)] []) (
  .seq (.seq (.reg false [⟨none, .fa 13 (.r 1)⟩,
    ⟨none, .ld false 1 (.l 0)⟩,
    ⟨none, .len (.l 0)⟩,
    ⟨none, .mov (.v (.c (.d (.int .i64 0))))⟩] [(8, 2), (9, 1), (10, 0)] []) (
  .block 0 (
  .seq (.fresh 3 (some 0) 1) (
  .loop (some [2, 3, 8, 9, 10]) fn225L1)))) (
  .seq (.reg false [⟨none, .fa 0 (.r 3)⟩,
    ⟨none, .ld false 1 (.l 0)⟩,
    ⟨none, .hc (.v (.c (.d (.fn 251 [] [])))) [(.l 0)]⟩,
    ⟨none, .fa 0 (.r 3)⟩,
    ⟨none, .st 1 (.l 0) (.l 1)⟩] [] []) (
  .seq (.reg false [⟨none, .ld true 1 (.r 3)⟩,
    ⟨none, .st 1 (.r 2) (.l 0)⟩] [] []) (
  .ret)))))⟩

/-- vidimus/counters.Wrap -/
def fn226 : Fn := ⟨2, 8, [0, 1, 2, 3, 4, 5, 6, 11], [.r 4, .r 5],
  .seq (.reg false [⟨none, .box (.r 0)⟩,
    ⟨none, .box (.r 1)⟩,
    ⟨none, .mov (.v (.c (.d (.int .i64 0))))⟩,
    ⟨none, .mov (.v (.c (.d (.int .i64 0))))⟩] [(2, 3), (3, 2), (4, 1), (5, 0)] []) (
  .seq (.seq (.reg false [⟨none, .ld true 3 (.r 2)⟩,
    ⟨none, .ld true 8 (.r 3)⟩,
    ⟨none, .vc 252 [(.l 1), (.l 0)]⟩,
    ⟨none, .mov (.l 0)⟩] [(6, 0)] []) (
  .seq (.reg false [⟨none, .mov (.r 6)⟩,
    ⟨none, .bin .neq (.l 0) (.v (.c (.d (.int .i64 0))))⟩] [(7, 0)] []) (
  .cond (.r 7) (
  .seq (.reg false [⟨none, .mov (.r 6)⟩,
    ⟨none, .mov (.v (.c (.d (.int .i64 0))))⟩,
    ⟨none, .mov (.l 1)⟩] [(4, 1), (5, 0)] []) (
  .ret)) (
  .skip)))) (
  .seq (.reg false [⟨none, .ld true 3 (.r 2)⟩,
    ⟨none, .ld true 8 (.r 3)⟩,
    ⟨none, .vc 253 [(.l 1), (.l 0)]⟩,
    ⟨none, .mov (.l 0)⟩,
    ⟨none, .mov (.v (.c (.d (.int .i64 0))))⟩] [(4, 1), (5, 0)] []) (
  .ret)))⟩

/-- (vidimus/graphs.State).Counters -/
def fn227 : Fn := ⟨1, 3, [0, 1, 2], [.cell 2 3 true],
  .seq (.reg false [⟨none, .box (.r 0)⟩,
    ⟨none, .new [.int .i64 0, .int .i64 0, .int .i64 0]⟩] [(1, 1), (2, 0)] []) (
  .seq (.reg false [⟨none, .fa 14 (.r 1)⟩,
    ⟨none, .ld true 3 (.l 0)⟩,
    ⟨none, .st 3 (.r 2) (.l 0)⟩] [] []) (
  .ret))⟩

/-- (vidimus/graphs.State).Last -/
def fn228 : Fn := ⟨1, 3, [0, 1, 2], [.cell 2 8 true],
  .seq (.reg false [⟨none, .box (.r 0)⟩,
    ⟨none, .new [.bool false, .bool false, .nils, .bool false, .nils, .int .i64 0, .int .i64 0, .int .i64 0]⟩] [(1, 1), (2, 0)] []) (
  .seq (.reg false [⟨none, .fa 5 (.r 1)⟩,
    ⟨none, .ld true 8 (.l 0)⟩,
    ⟨none, .vc 238 [(.l 0)]⟩,
    ⟨none, .st 8 (.r 2) (.l 0)⟩] [] []) (
  .ret))⟩

/-- vidimus/extracts.sorted -/
def fn229 : Fn := ⟨1, 6, [0, 2, 3, 4, 6, 7], [.r 1],
  .seq (.reg false [⟨none, .mov (.v (.c (.d (.nils))))⟩] [(1, 0)] []) (
  .seq (.reg false [⟨none, .new [.nils]⟩] [(2, 0)] []) (
  .seq (.seq (.reg false [⟨none, .mov (.r 0)⟩,
    ⟨none, .hc (.v (.c (.d (.fn 254 [] [])))) [(.l 0)]⟩] [(4, 0)] []) (
  .block 0 (
  .seq (.fresh 2 (some 0) 17) (
  .rf (.r 4) [5] (
  .reg false [⟨none, .pre⟩,
    ⟨none, .ini 17 (.r 5)⟩] [(3, 0)] []) (
  .block 1 (
  .reg false [⟨none, .ld false 1 (.r 2)⟩,
    ⟨none, .ld true 17 (.r 3)⟩,
    ⟨none, .bsl 1 17 [.int .u8 0, .int .u32 0, .int .u32 0, .int .u32 0, .int .u32 0, .int .u32 0, .int .u32 0, .int .u32 0, .int .u32 0, .int .u32 0, .int .u32 0, .int .u32 0, .int .u32 0, .int .u32 0, .int .u32 0, .int .u32 0, .int .u32 0] [(0, 17, (.l 0))]⟩,
    ⟨none, .app 17 (.l 2) (.l 0)⟩,
    ⟨none, .st 1 (.r 2) (.l 0)⟩] [] [])))))) (
  .seq (.reg false [⟨none, .ld false 1 (.r 2)⟩,
    ⟨none, .hc (.v (.c (.d (.fn 255 [] [])))) [(.l 0), (.v (.c (.d (.fn 104 [] []))))]⟩] [] []) (
  .seq (.reg false [⟨none, .ld false 1 (.r 2)⟩,
    ⟨none, .hc (.v (.c (.d (.fn 256 [] [])))) [(.l 0)]⟩,
    ⟨none, .mov (.l 0)⟩] [(1, 0)] []) (
  .ret)))))⟩

def fn230L0 : I := .seq (.reg false [⟨none, .bin .lss (.r 25) (.r 24)⟩] [(26, 0)] []) (
  .seq (.cond (.r 26) (
  .skip) (
  .exit 6)) (
  .seq (.block 7 (
  .seq (.reg false [⟨none, .ixa 1 (.r 23) (.r 25)⟩,
    ⟨none, .ld false 1 (.l 0)⟩,
    ⟨none, .mov (.l 0)⟩] [(10, 0)] []) (
  .reg false [⟨none, .mov (.r 7)⟩,
    ⟨none, .mov (.r 10)⟩,
    ⟨none, .ixa 1 (.l 1) (.l 0)⟩,
    ⟨none, .st 1 (.l 0) (.v (.c (.d (.bool true))))⟩] [] []))) (
  .reg false [⟨none, .bin .add (.r 25) (.v (.c (.d (.int .i64 1))))⟩,
    ⟨none, .mov (.l 0)⟩] [(25, 0)] [])))
def fn230L1 : I := .seq (.reg false [⟨none, .bin .lss (.r 19) (.r 18)⟩] [(20, 0)] []) (
  .seq (.cond (.r 20) (
  .skip) (
  .exit 4)) (
  .seq (.block 5 (
  .seq (.reg false [⟨none, .mov (.r 19)⟩,
    ⟨none, .ixa 20 (.r 17) (.r 19)⟩,
    ⟨none, .ld true 20 (.l 0)⟩,
    ⟨none, .pre⟩,
    ⟨none, .mov (.l 3)⟩,
    ⟨none, .ini 20 (.l 2)⟩] [(8, 1), (9, 0)] []) (
  .seq (.seq (.reg false [⟨none, .mov (.r 4)⟩,
    ⟨none, .mov (.r 8)⟩,
    ⟨none, .ixa 1 (.l 1) (.l 0)⟩,
    ⟨none, .ld false 1 (.l 0)⟩,
    ⟨none, .un .not (.l 0)⟩] [(21, 0)] []) (
  .cond (.r 21) (
  .exit 5) (
  .skip))) (
  .seq (.seq (.reg false [⟨none, .fa 2 (.r 1)⟩,
    ⟨none, .ld false 1 (.l 0)⟩,
    ⟨none, .mov (.r 6)⟩,
    ⟨none, .ixa 1 (.l 1) (.l 0)⟩,
    ⟨none, .ld false 1 (.l 0)⟩,
    ⟨none, .mov (.r 8)⟩,
    ⟨none, .ixa 1 (.l 1) (.l 0)⟩,
    ⟨none, .ld false 1 (.l 0)⟩] [(22, 0)] []) (
  .cond (.r 22) (
  .reg false [⟨none, .mov (.r 3)⟩,
    ⟨none, .fa 0 (.r 9)⟩,
    ⟨none, .ld true 17 (.l 0)⟩,
    ⟨none, .mpu true [0, 0, 0, 0, 0, 0, 0, 0, 0, 0, 0, 0, 0, 0, 0, 0, 0] (.l 2) (.l 0) (.v (.c (.d (.bool true))))⟩] [] []) (
  .skip))) (
  .seq (.reg false [⟨none, .fa 17 (.r 9)⟩,
    ⟨none, .ld false 1 (.l 0)⟩,
    ⟨none, .len (.l 0)⟩,
    ⟨none, .mov (.v (.c (.d (.int .i64 0))))⟩] [(23, 2), (24, 1), (25, 0)] []) (
  .block 6 (
  .loop (some [1, 3, 4, 6, 7, 17, 18, 19, 23, 24, 25]) fn230L0))))))) (
  .reg false [⟨none, .bin .add (.r 19) (.v (.c (.d (.int .i64 1))))⟩,
    ⟨none, .mov (.l 0)⟩] [(19, 0)] [])))
def fn230L2 : I := .seq (.seq (.reg false [⟨none, .mov (.r 6)⟩,
    ⟨none, .bin .geq (.l 0) (.v (.c (.d (.int .i64 0))))⟩] [(15, 0)] []) (
  .cond (.r 15) (
  .skip) (
  .exit 2))) (
  .seq (.block 3 (
  .seq (.reg false [⟨none, .mov (.v (.c (.d (.nils))))⟩] [(7, 0)] []) (
  .seq (.seq (.reg false [⟨none, .mov (.r 6)⟩,
    ⟨none, .bin .gtr (.l 0) (.v (.c (.d (.int .i64 0))))⟩] [(16, 0)] []) (
  .cond (.r 16) (
  .reg false [⟨none, .fa 0 (.r 1)⟩,
    ⟨none, .fa 0 (.l 0)⟩,
    ⟨none, .ld false 1 (.l 0)⟩,
    ⟨none, .mov (.r 6)⟩,
    ⟨none, .bin .sub (.l 0) (.v (.c (.d (.int .i64 1))))⟩,
    ⟨none, .ixa 1 (.l 2) (.l 0)⟩,
    ⟨none, .fa 0 (.l 0)⟩,
    ⟨none, .ld false 1 (.l 0)⟩,
    ⟨none, .len (.l 0)⟩,
    ⟨none, .mks 1 1 [.bool false] (.l 0) (.l 0)⟩,
    ⟨none, .mov (.l 0)⟩] [(7, 0)] []) (
  .skip))) (
  .seq (.seq (.reg false [⟨none, .fa 0 (.r 1)⟩,
    ⟨none, .fa 0 (.l 0)⟩,
    ⟨none, .ld false 1 (.l 0)⟩,
    ⟨none, .mov (.r 6)⟩,
    ⟨none, .ixa 1 (.l 1) (.l 0)⟩,
    ⟨none, .fa 0 (.l 0)⟩,
    ⟨none, .ld false 1 (.l 0)⟩,
    ⟨none, .len (.l 0)⟩,
    ⟨none, .mov (.v (.c (.d (.int .i64 0))))⟩] [(17, 2), (18, 1), (19, 0)] []) (
  .block 4 (
  .loop (some [1, 3, 4, 6, 7, 17, 18, 19]) fn230L1))) (
  .reg false [⟨none, .mov (.r 7)⟩,
    ⟨none, .mov (.l 0)⟩] [(4, 0)] []))))) (
  .reg false [⟨none, .mov (.r 6)⟩,
    ⟨none, .bin .sub (.l 0) (.v (.c (.d (.int .i64 1))))⟩,
    ⟨none, .mov (.l 0)⟩] [(6, 0)] []))
def fn230L3 : I := .seq (.reg false [⟨none, .bin .lss (.r 12) (.r 11)⟩] [(13, 0)] []) (
  .seq (.cond (.r 13) (
  .skip) (
  .exit 0)) (
  .seq (.block 1 (
  .seq (.reg false [⟨none, .mov (.r 12)⟩,
    ⟨none, .mov (.l 0)⟩] [(5, 0)] []) (
  .reg false [⟨none, .mov (.r 4)⟩,
    ⟨none, .mov (.r 5)⟩,
    ⟨none, .ixa 1 (.l 1) (.l 0)⟩,
    ⟨none, .st 1 (.l 0) (.v (.c (.d (.bool true))))⟩] [] []))) (
  .reg false [⟨none, .bin .add (.r 12) (.v (.c (.d (.int .i64 1))))⟩,
    ⟨none, .mov (.l 0)⟩] [(12, 0)] [])))
/-- (vidimus/extracts.view).authority -/
def fn230 : Fn := ⟨1, 27, [0, 1, 2, 3, 4, 5, 6, 7, 8, 9, 11, 18, 19, 20, 34, 43, 47, 64, 65, 66, 67, 75, 83, 88, 89, 90, 91], [.r 2],
  .seq (.reg false [⟨none, .box (.r 0)⟩,
    ⟨none, .mov (.v (.c (.d (.nilm))))⟩] [(1, 1), (2, 0)] []) (
  .seq (.reg false [⟨none, .mkm⟩,
    ⟨none, .mov (.l 0)⟩] [(3, 0)] []) (
  .seq (.reg false [⟨none, .ld true 3 (.r 1)⟩,
    ⟨none, .vc 257 [(.l 0)]⟩,
    ⟨none, .len (.l 0)⟩,
    ⟨none, .mks 1 1 [.bool false] (.l 0) (.l 0)⟩,
    ⟨none, .mov (.l 0)⟩] [(4, 0)] []) (
  .seq (.seq (.reg false [⟨none, .mov (.r 4)⟩,
    ⟨none, .len (.l 0)⟩,
    ⟨none, .mov (.v (.c (.d (.int .i64 0))))⟩] [(11, 1), (12, 0)] []) (
  .block 0 (
  .loop (some [1, 3, 4, 11, 12]) fn230L3))) (
  .seq (.seq (.reg false [⟨none, .fa 1 (.r 1)⟩,
    ⟨none, .ld false 1 (.l 0)⟩,
    ⟨none, .fa 1 (.r 1)⟩,
    ⟨none, .ld false 1 (.l 0)⟩,
    ⟨none, .len (.l 0)⟩,
    ⟨none, .bin .sub (.l 0) (.v (.c (.d (.int .i64 1))))⟩,
    ⟨none, .ixa 1 (.l 4) (.l 0)⟩,
    ⟨none, .ld false 1 (.l 0)⟩,
    ⟨none, .vc 258 [(.l 0), (.v (.c (.d (.bool true))))]⟩] [(14, 0)] []) (
  .cond (.r 14) (
  .reg false [⟨none, .mov (.r 3)⟩,
    ⟨none, .vc 95 []⟩,
    ⟨none, .mpu true [0, 0, 0, 0, 0, 0, 0, 0, 0, 0, 0, 0, 0, 0, 0, 0, 0] (.l 1) (.l 0) (.v (.c (.d (.bool true))))⟩] [] []) (
  .skip))) (
  .seq (.seq (.reg false [⟨none, .fa 0 (.r 1)⟩,
    ⟨none, .fa 0 (.l 0)⟩,
    ⟨none, .ld false 1 (.l 0)⟩,
    ⟨none, .len (.l 0)⟩,
    ⟨none, .bin .sub (.l 0) (.v (.c (.d (.int .i64 1))))⟩,
    ⟨none, .mov (.l 0)⟩] [(6, 0)] []) (
  .block 2 (
  .loop (some [1, 3, 4, 6]) fn230L2))) (
  .seq (.reg false [⟨none, .mov (.r 3)⟩,
    ⟨none, .mov (.l 0)⟩] [(2, 0)] []) (
  .ret)))))))⟩

def fn231L0 : I := .seq (.reg false [⟨none, .bin .lss (.r 12) (.r 11)⟩] [(13, 0)] []) (
  .seq (.cond (.r 13) (
  .skip) (
  .exit 0)) (
  .seq (.block 1 (
  .seq (.reg false [⟨none, .ixa 17 (.r 10) (.r 12)⟩,
    ⟨none, .ld true 17 (.l 0)⟩,
    ⟨none, .pre⟩,
    ⟨none, .ini 17 (.l 1)⟩] [(7, 0)] []) (
  .block 2 (
  .seq (.reg false [⟨none, .mov (.r 4)⟩,
    ⟨none, .ld true 17 (.r 7)⟩,
    ⟨none, .lkp false (.c (.d (.bool false))) true [0, 0, 0, 0, 0, 0, 0, 0, 0, 0, 0, 0, 0, 0, 0, 0, 0] (.l 1) (.l 0)⟩,
    ⟨none, .mov (.l 0)⟩] [(14, 0)] []) (
  .cond (.r 14) (
  .regk true [⟨none, .mov (.r 6)⟩,
    ⟨none, .ld true 3 (.r 2)⟩,
    ⟨none, .ld true 17 (.r 7)⟩,
    ⟨none, .mov (.r 5)⟩,
    ⟨none, .ld true 17 (.r 7)⟩,
    ⟨none, .lkp false (.c (.d (.nils))) true [0, 0, 0, 0, 0, 0, 0, 0, 0, 0, 0, 0, 0, 0, 0, 0, 0] (.l 1) (.l 0)⟩,
    ⟨none, .vc 261 [(.l 4), (.l 3), (.l 0)]⟩,
    ⟨none, .bsl 1 18 [.int .u8 0, .int .u32 0, .int .u32 0, .int .u32 0, .int .u32 0, .int .u32 0, .int .u32 0, .int .u32 0, .int .u32 0, .int .u32 0, .int .u32 0, .int .u32 0, .int .u32 0, .int .u32 0, .int .u32 0, .int .u32 0, .int .u32 0, .nils] [(0, 18, (.l 0))]⟩,
    ⟨none, .app 18 (.l 7) (.l 0)⟩,
    ⟨none, .mov (.l 0)⟩] [(6, 0)] [2, 7] []) (
  .seq (.reg false [⟨none, .mov (.r 4)⟩,
    ⟨none, .vc 95 []⟩,
    ⟨none, .lkp false (.c (.d (.bool false))) true [0, 0, 0, 0, 0, 0, 0, 0, 0, 0, 0, 0, 0, 0, 0, 0, 0] (.l 1) (.l 0)⟩,
    ⟨none, .mov (.l 0)⟩] [(15, 0)] []) (
  .cond (.r 15) (
  .seq (.regk true [⟨none, .ld true 3 (.r 2)⟩,
    ⟨none, .vc 95 []⟩,
    ⟨none, .mov (.r 5)⟩,
    ⟨none, .vc 95 []⟩,
    ⟨none, .lkp false (.c (.d (.nils))) true [0, 0, 0, 0, 0, 0, 0, 0, 0, 0, 0, 0, 0, 0, 0, 0, 0] (.l 1) (.l 0)⟩,
    ⟨none, .vc 261 [(.l 4), (.l 3), (.l 0)]⟩,
    ⟨none, .pre⟩,
    ⟨none, .ini 18 (.l 1)⟩] [(8, 0)] [2] []) (
  .seq (.reg false [⟨none, .ld true 17 (.r 7)⟩,
    ⟨none, .fa 0 (.r 8)⟩,
    ⟨none, .st 17 (.l 0) (.l 1)⟩] [] []) (
  .reg false [⟨none, .mov (.r 6)⟩,
    ⟨none, .ld true 18 (.r 8)⟩,
    ⟨none, .bsl 1 18 [.int .u8 0, .int .u32 0, .int .u32 0, .int .u32 0, .int .u32 0, .int .u32 0, .int .u32 0, .int .u32 0, .int .u32 0, .int .u32 0, .int .u32 0, .int .u32 0, .int .u32 0, .int .u32 0, .int .u32 0, .int .u32 0, .int .u32 0, .nils] [(0, 18, (.l 0))]⟩,
    ⟨none, .app 18 (.l 2) (.l 0)⟩,
    ⟨none, .mov (.l 0)⟩] [(6, 0)] []))) (
  .skip)))))))) (
  .reg false [⟨none, .bin .add (.r 12) (.v (.c (.d (.int .i64 1))))⟩,
    ⟨none, .mov (.l 0)⟩] [(12, 0)] [])))
/-- (vidimus/extracts.view).user -/
def fn231 : Fn := ⟨2, 16, [0, 1, 2, 4, 5, 6, 7, 9, 10, 13, 20, 21, 22, 23, 26, 39], [.r 3],
  .seq (.reg false [⟨none, .box (.r 0)⟩,
    ⟨none, .mov (.v (.c (.d (.nils))))⟩] [(2, 1), (3, 0)] []) (
  .seq (.seq (.reg false [⟨none, .mov (.r 1)⟩,
    ⟨none, .vc 95 []⟩,
    ⟨none, .vc 105 [(.l 1), (.l 0)]⟩] [(9, 0)] []) (
  .cond (.r 9) (
  .seq (.reg false [⟨none, .ld true 3 (.r 2)⟩,
    ⟨none, .vc 259 [(.l 0)]⟩,
    ⟨none, .mov (.l 0)⟩] [(3, 0)] []) (
  .ret)) (
  .skip))) (
  .seq (.regk true [⟨none, .ld true 3 (.r 2)⟩,
    ⟨none, .hc (.v (.c (.d (.fn 230 [] [])))) [(.l 0)]⟩,
    ⟨none, .ld true 3 (.r 2)⟩,
    ⟨none, .hc (.v (.c (.d (.fn 260 [] [])))) [(.l 0)]⟩,
    ⟨none, .mov (.l 2)⟩,
    ⟨none, .mov (.l 1)⟩] [(4, 1), (5, 0)] [2] []) (
  .seq (.reg false [⟨none, .mov (.v (.c (.d (.nils))))⟩] [(6, 0)] []) (
  .seq (.seq (.reg false [⟨none, .mov (.r 1)⟩,
    ⟨none, .len (.l 0)⟩,
    ⟨none, .mov (.v (.c (.d (.int .i64 0))))⟩] [(10, 2), (11, 1), (12, 0)] []) (
  .block 0 (
  .seq (.fresh 6 none 18) (
  .loop (some [2, 4, 5, 6, 10, 11, 12]) fn231L0)))) (
  .seq (.reg false [⟨none, .mov (.r 6)⟩,
    ⟨none, .hc (.v (.c (.d (.fn 262 [] [])))) [(.l 0)]⟩,
    ⟨none, .mov (.l 0)⟩] [(3, 0)] []) (
  .ret))))))⟩

/-- (vidimus/graphs.State).Inputs -/
def fn232 : Fn := ⟨1, 4, [0, 1, 2, 3], [.cell 2 4 true],
  .seq (.reg false [⟨none, .box (.r 0)⟩,
    ⟨none, .new [.nils, .bool false, .bool false, .bool false]⟩] [(1, 1), (2, 0)] []) (
  .seq (.reg false [⟨none, .fa 1 (.r 1)⟩,
    ⟨none, .ld true 4 (.l 0)⟩,
    ⟨none, .pre⟩,
    ⟨none, .ini 4 (.l 1)⟩] [(3, 0)] []) (
  .seq (.reg false [⟨none, .fa 0 (.r 3)⟩,
    ⟨none, .ld false 1 (.l 0)⟩,
    ⟨none, .hc (.v (.c (.d (.fn 235 [] [])))) [(.l 0)]⟩,
    ⟨none, .fa 0 (.r 3)⟩,
    ⟨none, .st 1 (.l 0) (.l 1)⟩] [] []) (
  .seq (.reg false [⟨none, .ld true 4 (.r 3)⟩,
    ⟨none, .st 4 (.r 2) (.l 0)⟩] [] []) (
  .ret))))⟩

/-- (vidimus/graphs.State).Length -/
def fn233 : Fn := ⟨1, 3, [0, 1, 2], [.r 2],
  .seq (.reg false [⟨none, .box (.r 0)⟩,
    ⟨none, .mov (.v (.c (.d (.int .i64 0))))⟩] [(1, 1), (2, 0)] []) (
  .seq (.reg false [⟨none, .fa 0 (.r 1)⟩,
    ⟨none, .ld false 1 (.l 0)⟩,
    ⟨none, .mov (.l 0)⟩] [(2, 0)] []) (
  .ret))⟩

/-- vidimus/counters.Start -/
def fn234 : Fn := ⟨2, 8, [0, 1, 3, 4, 5, 6, 9, 14], [.cell 3 3 true, .r 4],
  .seq (.reg false [⟨none, .box (.r 1)⟩,
    ⟨none, .new [.int .i64 0, .int .i64 0, .int .i64 0]⟩,
    ⟨none, .mov (.v (.c (.d (.int .i64 0))))⟩] [(2, 2), (3, 1), (4, 0)] []) (
  .seq (.seq (.reg false [⟨none, .mov (.r 0)⟩,
    ⟨none, .vc 263 [(.l 0), (.v (.c (.d (.int .i64 1)))), (.v (.c (.d (.int .i64 64))))]⟩,
    ⟨none, .un .not (.l 0)⟩] [(6, 0)] []) (
  .cond (.r 6) (
  .seq (.reg false [⟨none, .bld [.int .i64 0, .int .i64 0, .int .i64 0] []⟩,
    ⟨none, .st 3 (.r 3) (.l 0)⟩,
    ⟨none, .mov (.v (.c (.d (.int .i64 1))))⟩] [(4, 0)] []) (
  .ret)) (
  .skip))) (
  .seq (.seq (.reg false [⟨none, .ld true 4 (.r 2)⟩,
    ⟨none, .vc 79 [(.l 0)]⟩,
    ⟨none, .mov (.l 0)⟩] [(5, 0)] []) (
  .seq (.reg false [⟨none, .mov (.r 5)⟩,
    ⟨none, .bin .neq (.l 0) (.v (.c (.d (.int .i64 0))))⟩] [(7, 0)] []) (
  .cond (.r 7) (
  .seq (.reg false [⟨none, .bld [.int .i64 0, .int .i64 0, .int .i64 0] []⟩,
    ⟨none, .mov (.r 5)⟩,
    ⟨none, .st 3 (.r 3) (.l 1)⟩,
    ⟨none, .mov (.l 1)⟩] [(4, 0)] []) (
  .ret)) (
  .skip)))) (
  .seq (.reg false [⟨none, .mov (.r 0)⟩,
    ⟨none, .ld true 4 (.r 2)⟩,
    ⟨none, .vc 264 [(.l 1), (.l 0)]⟩,
    ⟨none, .st 3 (.r 3) (.l 0)⟩,
    ⟨none, .mov (.v (.c (.d (.int .i64 0))))⟩] [(4, 0)] []) (
  .ret))))⟩

/-- vidimus/graphs.exact[vidimus/api.OID] -/
def fn235 : Fn := ⟨1, 3, [0, 2, 5], [.r 1],
  .seq (.reg false [⟨none, .mov (.v (.c (.d (.nils))))⟩] [(1, 0)] []) (
  .seq (.seq (.reg false [⟨none, .mov (.r 0)⟩,
    ⟨none, .len (.l 0)⟩,
    ⟨none, .bin .eql (.l 0) (.v (.c (.d (.int .i64 0))))⟩] [(2, 0)] []) (
  .cond (.r 2) (
  .seq (.reg false [⟨none, .mov (.v (.c (.d (.nils))))⟩] [(1, 0)] []) (
  .ret)) (
  .skip))) (
  .seq (.reg false [⟨none, .mov (.r 0)⟩,
    ⟨none, .len (.l 0)⟩,
    ⟨none, .mks 17 68 [.int .u8 0, .int .u32 0, .int .u32 0, .int .u32 0, .int .u32 0, .int .u32 0, .int .u32 0, .int .u32 0, .int .u32 0, .int .u32 0, .int .u32 0, .int .u32 0, .int .u32 0, .int .u32 0, .int .u32 0, .int .u32 0, .int .u32 0] (.v (.c (.d (.int .i64 0)))) (.l 0)⟩,
    ⟨none, .mov (.r 0)⟩,
    ⟨none, .app 17 (.l 1) (.l 0)⟩,
    ⟨none, .mov (.l 0)⟩] [(1, 0)] []) (
  .ret)))⟩

/-- (vidimus/graphs.State).ready -/
def fn236 : Fn := ⟨2, 7, [0, 1, 2, 4, 5, 9, 13], [.r 3],
  .seq (.reg false [⟨none, .box (.r 0)⟩,
    ⟨none, .mov (.v (.c (.d (.int .i64 0))))⟩] [(2, 1), (3, 0)] []) (
  .seq (.block 0 (
  .seq (.reg false [⟨none, .fa 0 (.r 2)⟩,
    ⟨none, .ld false 1 (.l 0)⟩,
    ⟨none, .bin .eql (.l 0) (.v (.c (.d (.int .i64 0))))⟩,
    ⟨none, .mov (.l 0)⟩] [(4, 0)] []) (
  .cond (.r 4) (
  .seq (.reg false [⟨none, .mov (.v (.c (.d (.int .i64 2))))⟩] [(3, 0)] []) (
  .ret)) (
  .seq (.reg false [⟨none, .fa 19 (.r 2)⟩,
    ⟨none, .ld false 1 (.l 0)⟩,
    ⟨none, .bin .neq (.l 0) (.v (.c (.d (.int .u8 0))))⟩,
    ⟨none, .mov (.l 0)⟩] [(5, 0)] []) (
  .cond (.r 5) (
  .seq (.reg false [⟨none, .mov (.v (.c (.d (.int .i64 22))))⟩] [(3, 0)] []) (
  .ret)) (
  .seq (.reg true [⟨none, .fa 18 (.r 2)⟩,
    ⟨none, .ld false 1 (.l 0)⟩,
    ⟨none, .mov (.r 1)⟩,
    ⟨none, .beq true (.l 1) (.l 0)⟩,
    ⟨none, .mov (.l 0)⟩,
    ⟨some (0, false), .mov (.r 1)⟩,
    ⟨some (1, false), .un .not (.l 0)⟩,
    ⟨some (2, false), .mov (.l 0)⟩,
    ⟨some (0, true), .ld true 20 (.r 2)⟩,
    ⟨some (1, true), .vc 223 [(.l 0)]⟩,
    ⟨some (2, true), .fa 0 (.r 2)⟩,
    ⟨some (3, true), .ld false 1 (.l 0)⟩,
    ⟨some (4, true), .bin .eql (.l 2) (.l 0)⟩,
    ⟨some (8, false), .pick (.l 5) (.l 0) (.v (.c (.d (.bool false))))⟩,
    ⟨none, .pick (.l 9) (.v (.c (.d (.bool true)))) (.l 0)⟩,
    ⟨none, .mov (.l 0)⟩] [(6, 0)] []) (
  .cond (.r 6) (
  .seq (.reg false [⟨none, .mov (.v (.c (.d (.int .i64 21))))⟩] [(3, 0)] []) (
  .ret)) (
  .skip)))))))) (
  .seq (.reg false [⟨none, .mov (.v (.c (.d (.int .i64 0))))⟩] [(3, 0)] []) (
  .ret)))⟩

def fn237L0 : I := .seq (.nxm (.r 40) 41 42) (
  .seq (.cond (.r 42) (
  .skip) (
  .exit 7)) (
  .block 8 (
  .seq (.reg false [⟨none, .ent (.r 40)⟩,
    ⟨none, .ext (.l 0) 0⟩,
    ⟨none, .ext (.l 1) 1⟩,
    ⟨none, .pre⟩,
    ⟨none, .ini 17 (.l 2)⟩,
    ⟨none, .mov (.l 2)⟩] [(20, 1), (21, 0)] []) (
  .seq (.reg false [⟨none, .mov (.r 13)⟩,
    ⟨none, .ld true 17 (.r 20)⟩,
    ⟨none, .lkp true (.c (.d (.nils))) true [0, 0, 0, 0, 0, 0, 0, 0, 0, 0, 0, 0, 0, 0, 0, 0, 0] (.l 1) (.l 0)⟩,
    ⟨none, .mov (.l 0)⟩,
    ⟨none, .ext (.l 0) 0⟩,
    ⟨none, .ext (.l 1) 1⟩,
    ⟨none, .mov (.l 1)⟩,
    ⟨none, .mov (.l 1)⟩] [(22, 0)] []) (
  .seq (.reg true [⟨none, .mov (.r 22)⟩,
    ⟨none, .un .not (.l 0)⟩,
    ⟨none, .mov (.l 0)⟩,
    ⟨some (0, false), .ld true 17 (.r 20)⟩,
    ⟨some (1, false), .vc 95 []⟩,
    ⟨some (2, false), .eqa false 17 (.l 1) (.l 0)⟩,
    ⟨none, .pick (.l 3) (.v (.c (.d (.bool true)))) (.l 0)⟩] [(43, 0)] []) (
  .cond (.r 43) (
  .reg false [⟨none, .mov (.r 15)⟩,
    ⟨none, .ld true 17 (.r 20)⟩,
    ⟨none, .mov (.r 21)⟩,
    ⟨none, .mov (.r 18)⟩,
    ⟨none, .hc (.l 3) [(.l 2), (.l 1), (.l 0)]⟩] [] []) (
  .skip)))))))
def fn237L1 : I := .seq (.nxm (.r 33) 34 35) (
  .seq (.cond (.r 35) (
  .skip) (
  .exit 4)) (
  .block 5 (
  .seq (.reg false [⟨none, .ent (.r 33)⟩,
    ⟨none, .ext (.l 0) 0⟩,
    ⟨none, .ext (.l 1) 1⟩,
    ⟨none, .pre⟩,
    ⟨none, .ini 17 (.l 2)⟩,
    ⟨none, .mov (.l 2)⟩] [(16, 1), (17, 0)] []) (
  .block 6 (
  .seq (.reg true [⟨none, .ld true 17 (.r 16)⟩,
    ⟨none, .vc 95 []⟩,
    ⟨none, .eqa false 17 (.l 1) (.l 0)⟩,
    ⟨none, .mov (.l 0)⟩] [(36, 0)] []) (
  .cond (.r 36) (
  .skip) (
  .seq (.reg false [⟨none, .mov (.r 8)⟩,
    ⟨none, .ld true 17 (.r 16)⟩,
    ⟨none, .lkp false (.c (.d (.nils))) true [0, 0, 0, 0, 0, 0, 0, 0, 0, 0, 0, 0, 0, 0, 0, 0, 0] (.l 1) (.l 0)⟩,
    ⟨none, .len (.l 0)⟩,
    ⟨none, .bin .gtr (.l 0) (.v (.c (.d (.int .i64 0))))⟩,
    ⟨none, .mov (.l 0)⟩] [(37, 0)] []) (
  .cond (.r 37) (
  .regk true [⟨none, .mov (.r 15)⟩,
    ⟨none, .ld true 17 (.r 16)⟩,
    ⟨none, .mov (.r 8)⟩,
    ⟨none, .ld true 17 (.r 16)⟩,
    ⟨none, .lkp false (.c (.d (.nils))) true [0, 0, 0, 0, 0, 0, 0, 0, 0, 0, 0, 0, 0, 0, 0, 0, 0] (.l 1) (.l 0)⟩,
    ⟨none, .mov (.r 17)⟩,
    ⟨none, .hc (.l 5) [(.l 4), (.l 1), (.l 0)]⟩] [] [16] []) (
  .seq (.reg false [⟨none, .mov (.r 9)⟩,
    ⟨none, .bin .geq (.l 0) (.v (.c (.d (.int .i64 0))))⟩,
    ⟨none, .mov (.l 0)⟩] [(38, 0)] []) (
  .cond (.r 38) (
  .reg false [⟨none, .mov (.r 15)⟩,
    ⟨none, .ld true 17 (.r 16)⟩,
    ⟨none, .mov (.r 9)⟩,
    ⟨none, .bsl 1 1 [.int .i64 0] [(0, 1, (.l 0))]⟩,
    ⟨none, .mov (.r 17)⟩,
    ⟨none, .hc (.l 4) [(.l 3), (.l 1), (.l 0)]⟩] [] []) (
  .skip)))))))))))
def fn237L2 : I := .seq (.reg false [⟨none, .bin .lss (.r 30) (.r 29)⟩] [(31, 0)] []) (
  .seq (.cond (.r 31) (
  .skip) (
  .exit 2)) (
  .seq (.block 3 (
  .seq (.reg false [⟨none, .ixa 17 (.r 28) (.r 30)⟩,
    ⟨none, .ld true 17 (.l 0)⟩,
    ⟨none, .pre⟩,
    ⟨none, .ini 17 (.l 1)⟩] [(12, 0)] []) (
  .bad))) (
  .reg false [⟨none, .bin .add (.r 30) (.v (.c (.d (.int .i64 1))))⟩,
    ⟨none, .mov (.l 0)⟩] [(30, 0)] [])))
def fn237L3 : I := .seq (.reg false [⟨none, .bin .lss (.r 26) (.r 25)⟩] [(27, 0)] []) (
  .seq (.cond (.r 27) (
  .skip) (
  .exit 0)) (
  .seq (.block 1 (
  .seq (.reg false [⟨none, .mov (.r 26)⟩,
    ⟨none, .ixa 20 (.r 24) (.r 26)⟩,
    ⟨none, .ld true 20 (.l 0)⟩,
    ⟨none, .pre⟩,
    ⟨none, .mov (.l 3)⟩,
    ⟨none, .ini 20 (.l 2)⟩] [(10, 1), (11, 0)] []) (
  .seq (.reg false [⟨none, .mov (.r 7)⟩,
    ⟨none, .fa 18 (.r 11)⟩,
    ⟨none, .ld false 1 (.l 0)⟩,
    ⟨none, .len (.l 0)⟩,
    ⟨none, .bin .add (.l 3) (.l 0)⟩,
    ⟨none, .mov (.l 0)⟩] [(7, 0)] []) (
  .seq (.seq (.reg false [⟨none, .fa 18 (.r 11)⟩,
    ⟨none, .ld false 1 (.l 0)⟩,
    ⟨none, .len (.l 0)⟩,
    ⟨none, .mov (.v (.c (.d (.int .i64 0))))⟩] [(28, 2), (29, 1), (30, 0)] []) (
  .block 2 (
  .loop (some [2, 4, 5, 7, 8, 9, 10, 11, 24, 25, 26, 28, 29, 30]) fn237L2))) (
  .seq (.reg true [⟨none, .fa 0 (.r 11)⟩,
    ⟨none, .ld true 17 (.l 0)⟩,
    ⟨none, .vc 95 []⟩,
    ⟨none, .eqa false 17 (.l 1) (.l 0)⟩] [(32, 0)] []) (
  .cond (.r 32) (
  .reg false [⟨none, .mov (.r 10)⟩,
    ⟨none, .mov (.l 0)⟩] [(9, 0)] []) (
  .skip))))))) (
  .reg false [⟨none, .bin .add (.r 26) (.v (.c (.d (.int .i64 1))))⟩,
    ⟨none, .mov (.l 0)⟩] [(26, 0)] [])))
/-- vidimus/graphs.next -/
def fn237 : Fn := ⟨3, 44, [0, 1, 2, 3, 4, 6, 7, 8, 9, 10, 11, 12, 14, 15, 16, 17, 18, 19, 20, 21, 22, 23, 25, 28, 35, 36, 37, 38, 48, 49, 50, 51, 66, 74, 75, 76, 80, 84, 97, 115, 117, 118, 119, 135], [.cell 5 1 true, .r 6],
  .seq (.reg false [⟨none, .box (.r 0)⟩,
    ⟨none, .box (.r 1)⟩,
    ⟨none, .new [.nils]⟩,
    ⟨none, .mov (.v (.c (.d (.int .i64 0))))⟩] [(3, 3), (4, 2), (5, 1), (6, 0)] []) (
  .seq (.seq (.reg false [⟨none, .fa 1 (.r 4)⟩,
    ⟨none, .ld false 1 (.l 0)⟩,
    ⟨none, .un .not (.l 0)⟩] [(23, 0)] []) (
  .cond (.r 23) (
  .seq (.reg false [⟨none, .bld [.nils] []⟩,
    ⟨none, .st 1 (.r 5) (.l 0)⟩,
    ⟨none, .mov (.v (.c (.d (.int .i64 0))))⟩] [(6, 0)] []) (
  .ret)) (
  .skip))) (
  .seq (.reg false [⟨none, .fa 2 (.r 4)⟩,
    ⟨none, .ld false 1 (.l 0)⟩,
    ⟨none, .len (.l 0)⟩,
    ⟨none, .mov (.l 0)⟩] [(7, 0)] []) (
  .seq (.reg false [⟨none, .mkm⟩,
    ⟨none, .mov (.l 0)⟩] [(8, 0)] []) (
  .seq (.reg false [⟨none, .mov (.v (.c (.d (.int .i64 (-1)))))⟩] [(9, 0)] []) (
  .seq (.seq (.reg false [⟨none, .fa 0 (.r 3)⟩,
    ⟨none, .ld false 1 (.l 0)⟩,
    ⟨none, .len (.l 0)⟩,
    ⟨none, .mov (.v (.c (.d (.int .i64 0))))⟩] [(24, 2), (25, 1), (26, 0)] []) (
  .block 0 (
  .loop (some [2, 4, 5, 7, 8, 9, 24, 25, 26]) fn237L3))) (
  .seq (.reg false [⟨none, .ld true 8 (.r 4)⟩,
    ⟨none, .hc (.v (.c (.d (.fn 265 [] [])))) [(.l 0)]⟩,
    ⟨none, .mov (.l 0)⟩] [(13, 0)] []) (
  .seq (.reg false [⟨none, .mkm⟩,
    ⟨none, .pre⟩,
    ⟨none, .ini 1 (.l 1)⟩] [(14, 0)] []) (
  .seq (.reg false [⟨none, .mkf 266 [] [(.r 14)]⟩,
    ⟨none, .mov (.l 0)⟩] [(15, 0)] []) (
  .seq (.seq (.reg false [⟨none, .mov (.r 13)⟩,
    ⟨none, .rgm (.l 0)⟩] [(33, 0)] []) (
  .block 4 (
  .loop (some [2, 5, 7, 8, 9, 13, 14, 15, 33]) fn237L1))) (
  .seq (.seq (.reg false [⟨none, .mov (.r 13)⟩,
    ⟨none, .vc 95 []⟩,
    ⟨none, .lkp true (.c (.d (.nils))) true [0, 0, 0, 0, 0, 0, 0, 0, 0, 0, 0, 0, 0, 0, 0, 0, 0] (.l 1) (.l 0)⟩,
    ⟨none, .mov (.l 0)⟩,
    ⟨none, .ext (.l 0) 0⟩,
    ⟨none, .ext (.l 1) 1⟩,
    ⟨none, .mov (.l 1)⟩,
    ⟨none, .mov (.l 1)⟩] [(18, 1), (19, 0)] []) (
  .seq (.reg false [⟨none, .mov (.r 19)⟩,
    ⟨none, .mov (.l 0)⟩,
    ⟨some (0, true), .mov (.r 2)⟩,
    ⟨none, .pick (.l 1) (.l 0) (.v (.c (.d (.bool false))))⟩] [(39, 0)] []) (
  .cond (.r 39) (
  .seq (.reg false [⟨none, .mov (.r 8)⟩,
    ⟨none, .rgm (.l 0)⟩] [(40, 0)] []) (
  .block 7 (
  .loop (some [5, 7, 13, 14, 15, 18, 40]) fn237L0))) (
  .skip)))) (
  .seq (.reg false [⟨none, .ld false 1 (.r 14)⟩,
    ⟨none, .hc (.v (.c (.d (.fn 267 [] [])))) [(.l 0)]⟩,
    ⟨none, .mov (.r 7)⟩,
    ⟨none, .st 1 (.r 5) (.l 1)⟩,
    ⟨none, .mov (.l 1)⟩] [(6, 0)] []) (
  .ret))))))))))))⟩

def fn238L0 : I := .seq (.reg false [⟨none, .bin .lss (.r 7) (.r 6)⟩] [(8, 0)] []) (
  .seq (.cond (.r 8) (
  .skip) (
  .exit 0)) (
  .seq (.block 1 (
  .seq (.reg false [⟨none, .mov (.r 7)⟩,
    ⟨none, .ixa 18 (.r 5) (.r 7)⟩,
    ⟨none, .ld true 18 (.l 0)⟩,
    ⟨none, .pre⟩,
    ⟨none, .mov (.l 3)⟩,
    ⟨none, .ini 18 (.l 2)⟩] [(3, 1), (4, 0)] []) (
  .reg true [⟨none, .fa 2 (.r 1)⟩,
    ⟨none, .ld false 1 (.l 0)⟩,
    ⟨none, .mov (.r 3)⟩,
    ⟨none, .fa 17 (.r 4)⟩,
    ⟨none, .ld false 1 (.l 0)⟩,
    ⟨none, .vc 270 [(.l 0)]⟩,
    ⟨none, .ixa 18 (.l 4) (.l 3)⟩,
    ⟨none, .fa 17 (.l 0)⟩,
    ⟨none, .st 1 (.l 0) (.l 2)⟩] [] []))) (
  .reg false [⟨none, .bin .add (.r 7) (.v (.c (.d (.int .i64 1))))⟩,
    ⟨none, .mov (.l 0)⟩] [(7, 0)] [])))
/-- vidimus/graphs.kept -/
def fn238 : Fn := ⟨1, 9, [0, 1, 2, 3, 4, 14, 15, 16, 17], [.cell 2 8 true],
  .seq (.reg false [⟨none, .box (.r 0)⟩,
    ⟨none, .new [.bool false, .bool false, .nils, .bool false, .nils, .int .i64 0, .int .i64 0, .int .i64 0]⟩] [(1, 1), (2, 0)] []) (
  .seq (.reg false [⟨none, .fa 4 (.r 1)⟩,
    ⟨none, .ld false 1 (.l 0)⟩,
    ⟨none, .hc (.v (.c (.d (.fn 268 [] [])))) [(.l 0)]⟩,
    ⟨none, .fa 4 (.r 1)⟩,
    ⟨none, .st 1 (.l 0) (.l 1)⟩] [] []) (
  .seq (.reg false [⟨none, .fa 2 (.r 1)⟩,
    ⟨none, .ld false 1 (.l 0)⟩,
    ⟨none, .hc (.v (.c (.d (.fn 269 [] [])))) [(.l 0)]⟩,
    ⟨none, .fa 2 (.r 1)⟩,
    ⟨none, .st 1 (.l 0) (.l 1)⟩] [] []) (
  .seq (.seq (.reg false [⟨none, .fa 2 (.r 1)⟩,
    ⟨none, .ld false 1 (.l 0)⟩,
    ⟨none, .len (.l 0)⟩,
    ⟨none, .mov (.v (.c (.d (.int .i64 0))))⟩] [(5, 2), (6, 1), (7, 0)] []) (
  .block 0 (
  .loop (some [1, 2, 5, 6, 7]) fn238L0))) (
  .seq (.reg false [⟨none, .ld true 8 (.r 1)⟩,
    ⟨none, .st 8 (.r 2) (.l 0)⟩] [] []) (
  .ret)))))⟩

/-- (vidimus/graphs.State).Pending -/
def fn246 : Fn := ⟨1, 3, [0, 1, 2], [.r 2],
  .seq (.reg false [⟨none, .box (.r 0)⟩,
    ⟨none, .mov (.v (.c (.d (.bool false))))⟩] [(1, 1), (2, 0)] []) (
  .seq (.reg false [⟨none, .fa 18 (.r 1)⟩,
    ⟨none, .ld false 1 (.l 0)⟩,
    ⟨none, .mov (.l 0)⟩] [(2, 0)] []) (
  .ret))⟩

/-- vidimus/graphs.exact[vidimus/graphs.Node] -/
def fn249 : Fn := ⟨1, 3, [0, 2, 5], [.r 1],
  .seq (.reg false [⟨none, .mov (.v (.c (.d (.nils))))⟩] [(1, 0)] []) (
  .seq (.seq (.reg false [⟨none, .mov (.r 0)⟩,
    ⟨none, .len (.l 0)⟩,
    ⟨none, .bin .eql (.l 0) (.v (.c (.d (.int .i64 0))))⟩] [(2, 0)] []) (
  .cond (.r 2) (
  .seq (.reg false [⟨none, .mov (.v (.c (.d (.nils))))⟩] [(1, 0)] []) (
  .ret)) (
  .skip))) (
  .seq (.reg false [⟨none, .mov (.r 0)⟩,
    ⟨none, .len (.l 0)⟩,
    ⟨none, .mks 20 144 [.int .u8 0, .int .u32 0, .int .u32 0, .int .u32 0, .int .u32 0, .int .u32 0, .int .u32 0, .int .u32 0, .int .u32 0, .int .u32 0, .int .u32 0, .int .u32 0, .int .u32 0, .int .u32 0, .int .u32 0, .int .u32 0, .int .u32 0, .nils, .nils, .nils] (.v (.c (.d (.int .i64 0)))) (.l 0)⟩,
    ⟨none, .mov (.r 0)⟩,
    ⟨none, .app 20 (.l 1) (.l 0)⟩,
    ⟨none, .mov (.l 0)⟩] [(1, 0)] []) (
  .ret)))⟩

/-- vidimus/graphs.copied -/
def fn250 : Fn := ⟨1, 3, [0, 1, 2], [.cell 2 20 true],
  .seq (.reg false [⟨none, .box (.r 0)⟩,
    ⟨none, .new [.int .u8 0, .int .u32 0, .int .u32 0, .int .u32 0, .int .u32 0, .int .u32 0, .int .u32 0, .int .u32 0, .int .u32 0, .int .u32 0, .int .u32 0, .int .u32 0, .int .u32 0, .int .u32 0, .int .u32 0, .int .u32 0, .int .u32 0, .nils, .nils, .nils]⟩] [(1, 1), (2, 0)] []) (
  .seq (.regk true [⟨none, .fa 0 (.r 1)⟩,
    ⟨none, .ld true 17 (.l 0)⟩,
    ⟨none, .fa 17 (.r 1)⟩,
    ⟨none, .ld false 1 (.l 0)⟩,
    ⟨none, .hc (.v (.c (.d (.fn 279 [] [])))) [(.l 0)]⟩,
    ⟨none, .fa 18 (.r 1)⟩,
    ⟨none, .ld false 1 (.l 0)⟩,
    ⟨none, .hc (.v (.c (.d (.fn 235 [] [])))) [(.l 0)]⟩,
    ⟨none, .fa 19 (.r 1)⟩,
    ⟨none, .ld false 1 (.l 0)⟩,
    ⟨none, .vc 270 [(.l 0)]⟩,
    ⟨none, .bld [.int .u8 0, .int .u32 0, .int .u32 0, .int .u32 0, .int .u32 0, .int .u32 0, .int .u32 0, .int .u32 0, .int .u32 0, .int .u32 0, .int .u32 0, .int .u32 0, .int .u32 0, .int .u32 0, .int .u32 0, .int .u32 0, .int .u32 0, .nils, .nils, .nils] [(0, 17, (.l 9)), (17, 1, (.l 6)), (18, 1, (.l 3)), (19, 1, (.l 0))]⟩,
    ⟨none, .st 20 (.r 2) (.l 0)⟩] [] [1] []) (
  .ret))⟩

/-- vidimus/graphs.exact[vidimus/graphs.Level] -/
def fn251 : Fn := ⟨1, 3, [0, 2, 5], [.r 1],
  .seq (.reg false [⟨none, .mov (.v (.c (.d (.nils))))⟩] [(1, 0)] []) (
  .seq (.seq (.reg false [⟨none, .mov (.r 0)⟩,
    ⟨none, .len (.l 0)⟩,
    ⟨none, .bin .eql (.l 0) (.v (.c (.d (.int .i64 0))))⟩] [(2, 0)] []) (
  .cond (.r 2) (
  .seq (.reg false [⟨none, .mov (.v (.c (.d (.nils))))⟩] [(1, 0)] []) (
  .ret)) (
  .skip))) (
  .seq (.reg false [⟨none, .mov (.r 0)⟩,
    ⟨none, .len (.l 0)⟩,
    ⟨none, .mks 1 24 [.nils] (.v (.c (.d (.int .i64 0)))) (.l 0)⟩,
    ⟨none, .mov (.r 0)⟩,
    ⟨none, .app 1 (.l 1) (.l 0)⟩,
    ⟨none, .mov (.l 0)⟩] [(1, 0)] []) (
  .ret)))⟩

/-- vidimus/counters.valid -/
def fn252 : Fn := ⟨2, 7, [0, 1, 2, 3, 4, 5, 9], [.r 4],
  .seq (.reg false [⟨none, .box (.r 0)⟩,
    ⟨none, .box (.r 1)⟩,
    ⟨none, .mov (.v (.c (.d (.int .i64 0))))⟩] [(2, 2), (3, 1), (4, 0)] []) (
  .seq (.seq (.reg false [⟨none, .ld true 3 (.r 2)⟩,
    ⟨none, .vc 280 [(.l 0)]⟩,
    ⟨none, .mov (.l 0)⟩] [(5, 0)] []) (
  .seq (.reg false [⟨none, .mov (.r 5)⟩,
    ⟨none, .bin .neq (.l 0) (.v (.c (.d (.int .i64 0))))⟩] [(6, 0)] []) (
  .cond (.r 6) (
  .seq (.reg false [⟨none, .mov (.r 5)⟩,
    ⟨none, .mov (.l 0)⟩] [(4, 0)] []) (
  .ret)) (
  .skip)))) (
  .seq (.reg false [⟨none, .ld true 8 (.r 3)⟩,
    ⟨none, .vc 84 [(.l 0)]⟩,
    ⟨none, .mov (.l 0)⟩] [(4, 0)] []) (
  .ret)))⟩

/-- vidimus/counters.wrap -/
def fn253 : Fn := ⟨2, 6, [0, 1, 2, 3, 4, 7], [.r 4],
  .seq (.reg false [⟨none, .box (.r 0)⟩,
    ⟨none, .box (.r 1)⟩,
    ⟨none, .mov (.v (.c (.d (.int .i64 0))))⟩] [(2, 2), (3, 1), (4, 0)] []) (
  .seq (.seq (.reg false [⟨none, .fa 5 (.r 3)⟩,
    ⟨none, .ld false 1 (.l 0)⟩,
    ⟨none, .bin .eql (.l 0) (.v (.c (.d (.int .i64 0))))⟩] [(5, 0)] []) (
  .cond (.r 5) (
  .seq (.reg false [⟨none, .mov (.v (.c (.d (.int .i64 0))))⟩] [(4, 0)] []) (
  .ret)) (
  .skip))) (
  .seq (.reg false [⟨none, .fa 0 (.r 2)⟩,
    ⟨none, .ld false 1 (.l 0)⟩,
    ⟨none, .bin .sub (.l 0) (.v (.c (.d (.int .i64 1))))⟩,
    ⟨none, .mm true (.l 0) (.v (.c (.d (.int .i64 0))))⟩,
    ⟨none, .mov (.l 0)⟩] [(4, 0)] []) (
  .ret)))⟩

/-- (vidimus/extracts.set[vidimus/api.OID]).all -/
def fn254 : Fn := ⟨1, 3, [0, 1, 2], [.r 2],
  .seq (.reg false [⟨none, .box (.r 0)⟩,
    ⟨none, .mov (.v (.c (.d (.nilf))))⟩] [(1, 1), (2, 0)] []) (
  .seq (.reg false [⟨none, .mkf 281 [] [(.r 1)]⟩,
    ⟨none, .mov (.l 0)⟩] [(2, 0)] []) (
  .ret))⟩

/-- slices.SortFunc[[]vidimus/api.OID,vidimus/api.OID] -/
def fn255 : Fn := ⟨2, 3, [0, 1, 4], [],
  .seq (.reg false [⟨none, .mov (.r 0)⟩,
    ⟨none, .len (.l 0)⟩,
    ⟨none, .mov (.l 0)⟩] [(2, 0)] []) (
  .reg false [⟨none, .mov (.r 0)⟩,
    ⟨none, .mov (.r 2)⟩,
    ⟨none, .mov (.r 2)⟩,
    ⟨none, .cvi .u64 (.l 0)⟩,
    ⟨none, .vc 283 [(.l 0)]⟩,
    ⟨none, .mov (.r 1)⟩,
    ⟨none, .hc (.v (.c (.d (.fn 282 [] [])))) [(.l 5), (.v (.c (.d (.int .i64 0)))), (.l 4), (.l 1), (.l 0)]⟩] [] [])⟩

/-- vidimus/extracts.exact[vidimus/api.OID] -/
def fn256 : Fn := ⟨1, 3, [0, 2, 5], [.r 1],
  .seq (.reg false [⟨none, .mov (.v (.c (.d (.nils))))⟩] [(1, 0)] []) (
  .seq (.seq (.reg false [⟨none, .mov (.r 0)⟩,
    ⟨none, .len (.l 0)⟩,
    ⟨none, .bin .eql (.l 0) (.v (.c (.d (.int .i64 0))))⟩] [(2, 0)] []) (
  .cond (.r 2) (
  .seq (.reg false [⟨none, .mov (.v (.c (.d (.nils))))⟩] [(1, 0)] []) (
  .ret)) (
  .skip))) (
  .seq (.reg false [⟨none, .mov (.r 0)⟩,
    ⟨none, .len (.l 0)⟩,
    ⟨none, .mks 17 68 [.int .u8 0, .int .u32 0, .int .u32 0, .int .u32 0, .int .u32 0, .int .u32 0, .int .u32 0, .int .u32 0, .int .u32 0, .int .u32 0, .int .u32 0, .int .u32 0, .int .u32 0, .int .u32 0, .int .u32 0, .int .u32 0, .int .u32 0] (.v (.c (.d (.int .i64 0)))) (.l 0)⟩,
    ⟨none, .mov (.r 0)⟩,
    ⟨none, .app 17 (.l 1) (.l 0)⟩,
    ⟨none, .mov (.l 0)⟩] [(1, 0)] []) (
  .ret)))⟩

/-- (vidimus/extracts.view).last -/
def fn257 : Fn := ⟨1, 3, [0, 1, 2], [.r 2],
  .seq (.reg false [⟨none, .box (.r 0)⟩,
    ⟨none, .mov (.v (.c (.d (.nils))))⟩] [(1, 1), (2, 0)] []) (
  .seq (.reg false [⟨none, .fa 0 (.r 1)⟩,
    ⟨none, .fa 0 (.l 0)⟩,
    ⟨none, .ld false 1 (.l 0)⟩,
    ⟨none, .fa 0 (.r 1)⟩,
    ⟨none, .fa 0 (.l 0)⟩,
    ⟨none, .ld false 1 (.l 0)⟩,
    ⟨none, .len (.l 0)⟩,
    ⟨none, .bin .sub (.l 0) (.v (.c (.d (.int .i64 1))))⟩,
    ⟨none, .ixa 1 (.l 5) (.l 0)⟩,
    ⟨none, .fa 0 (.l 0)⟩,
    ⟨none, .ld false 1 (.l 0)⟩,
    ⟨none, .mov (.l 0)⟩] [(2, 0)] []) (
  .ret))⟩

/-- slices.Contains[[]bool,bool] -/
def fn258 : Fn := ⟨2, 3, [0, 1, 4], [.r 2],
  .seq (.reg false [⟨none, .mov (.v (.c (.d (.bool false))))⟩] [(2, 0)] []) (
  .seq (.reg false [⟨none, .mov (.r 0)⟩,
    ⟨none, .mov (.r 1)⟩,
    ⟨none, .vc 284 [(.l 1), (.l 0)]⟩,
    ⟨none, .bin .geq (.l 0) (.v (.c (.d (.int .i64 0))))⟩,
    ⟨none, .mov (.l 0)⟩] [(2, 0)] []) (
  .ret))⟩

def fn260L0 : I := .seq (.reg false [⟨none, .bin .lss (.r 34) (.r 33)⟩] [(35, 0)] []) (
  .seq (.cond (.r 35) (
  .skip) (
  .exit 8)) (
  .seq (.block 9 (
  .seq (.reg false [⟨none, .ixa 17 (.r 32) (.r 34)⟩,
    ⟨none, .ld true 17 (.l 0)⟩,
    ⟨none, .pre⟩,
    ⟨none, .ini 17 (.l 1)⟩] [(14, 0)] []) (
  .bad))) (
  .reg false [⟨none, .bin .add (.r 34) (.v (.c (.d (.int .i64 1))))⟩,
    ⟨none, .mov (.l 0)⟩] [(34, 0)] [])))
def fn260L1 : I := .seq (.reg false [⟨none, .bin .lss (.r 30) (.r 29)⟩] [(31, 0)] []) (
  .seq (.cond (.r 31) (
  .skip) (
  .exit 6)) (
  .seq (.block 7 (
  .seq (.reg false [⟨none, .mov (.r 30)⟩,
    ⟨none, .ixa 1 (.r 28) (.r 30)⟩,
    ⟨none, .ld false 1 (.l 0)⟩,
    ⟨none, .mov (.l 2)⟩,
    ⟨none, .mov (.l 1)⟩] [(12, 1), (13, 0)] []) (
  .seq (.seq (.reg false [⟨none, .mov (.r 13)⟩,
    ⟨none, .len (.l 0)⟩,
    ⟨none, .mov (.v (.c (.d (.int .i64 0))))⟩] [(32, 2), (33, 1), (34, 0)] []) (
  .block 8 (
  .loop (some [1, 11, 12, 28, 29, 30, 32, 33, 34]) fn260L0))) (
  .seq (.reg false [⟨none, .fa 1 (.r 1)⟩,
    ⟨none, .ld false 1 (.l 0)⟩,
    ⟨none, .fa 1 (.r 1)⟩,
    ⟨none, .ld false 1 (.l 0)⟩,
    ⟨none, .len (.l 0)⟩,
    ⟨none, .bin .sub (.l 0) (.v (.c (.d (.int .i64 1))))⟩,
    ⟨none, .ixa 1 (.l 4) (.l 0)⟩,
    ⟨none, .ld false 1 (.l 0)⟩,
    ⟨none, .mov (.r 12)⟩,
    ⟨none, .ixa 1 (.l 1) (.l 0)⟩,
    ⟨none, .ld false 1 (.l 0)⟩] [(36, 0)] []) (
  .cond (.r 36) (
  .reg false [⟨none, .mov (.r 11)⟩,
    ⟨none, .vc 95 []⟩,
    ⟨none, .mov (.r 11)⟩,
    ⟨none, .vc 95 []⟩,
    ⟨none, .lkp false (.c (.d (.nils))) true [0, 0, 0, 0, 0, 0, 0, 0, 0, 0, 0, 0, 0, 0, 0, 0, 0] (.l 1) (.l 0)⟩,
    ⟨none, .mov (.r 12)⟩,
    ⟨none, .bsl 1 1 [.int .i64 0] [(0, 1, (.l 0))]⟩,
    ⟨none, .app 1 (.l 2) (.l 0)⟩,
    ⟨none, .mpu true [0, 0, 0, 0, 0, 0, 0, 0, 0, 0, 0, 0, 0, 0, 0, 0, 0] (.l 7) (.l 6) (.l 0)⟩] [] []) (
  .skip)))))) (
  .reg false [⟨none, .bin .add (.r 30) (.v (.c (.d (.int .i64 1))))⟩,
    ⟨none, .mov (.l 0)⟩] [(30, 0)] [])))
def fn260L2 : I := .seq (.reg false [⟨none, .bin .lss (.r 26) (.r 25)⟩] [(27, 0)] []) (
  .seq (.cond (.r 27) (
  .skip) (
  .exit 4)) (
  .seq (.block 5 (
  .seq (.reg false [⟨none, .ixa 1 (.r 24) (.r 26)⟩,
    ⟨none, .ld false 1 (.l 0)⟩,
    ⟨none, .mov (.l 0)⟩] [(10, 0)] []) (
  .reg false [⟨none, .mov (.r 9)⟩,
    ⟨none, .mov (.r 3)⟩,
    ⟨none, .mov (.r 10)⟩,
    ⟨none, .ixa 1 (.l 1) (.l 0)⟩,
    ⟨none, .ld false 1 (.l 0)⟩,
    ⟨none, .bsl 1 1 [.nils] [(0, 1, (.l 0))]⟩,
    ⟨none, .app 1 (.l 5) (.l 0)⟩,
    ⟨none, .mov (.l 0)⟩] [(9, 0)] []))) (
  .reg false [⟨none, .bin .add (.r 26) (.v (.c (.d (.int .i64 1))))⟩,
    ⟨none, .mov (.l 0)⟩] [(26, 0)] [])))
def fn260L3 : I := .seq (.reg false [⟨none, .bin .lss (.r 21) (.r 20)⟩] [(22, 0)] []) (
  .seq (.cond (.r 22) (
  .skip) (
  .exit 2)) (
  .seq (.block 3 (
  .seq (.reg false [⟨none, .mov (.r 21)⟩,
    ⟨none, .ixa 20 (.r 19) (.r 21)⟩,
    ⟨none, .ld true 20 (.l 0)⟩,
    ⟨none, .pre⟩,
    ⟨none, .mov (.l 3)⟩,
    ⟨none, .ini 20 (.l 2)⟩] [(7, 1), (8, 0)] []) (
  .seq (.reg false [⟨none, .mov (.v (.c (.d (.nils))))⟩] [(9, 0)] []) (
  .seq (.seq (.reg false [⟨none, .fa 2 (.r 1)⟩,
    ⟨none, .ld false 1 (.l 0)⟩,
    ⟨none, .mov (.r 4)⟩,
    ⟨none, .ixa 1 (.l 1) (.l 0)⟩,
    ⟨none, .ld false 1 (.l 0)⟩,
    ⟨none, .mov (.r 7)⟩,
    ⟨none, .ixa 1 (.l 1) (.l 0)⟩,
    ⟨none, .ld false 1 (.l 0)⟩] [(23, 0)] []) (
  .cond (.r 23) (
  .reg false [⟨none, .mov (.r 9)⟩,
    ⟨none, .fa 0 (.r 8)⟩,
    ⟨none, .ld true 17 (.l 0)⟩,
    ⟨none, .bsl 1 17 [.int .u8 0, .int .u32 0, .int .u32 0, .int .u32 0, .int .u32 0, .int .u32 0, .int .u32 0, .int .u32 0, .int .u32 0, .int .u32 0, .int .u32 0, .int .u32 0, .int .u32 0, .int .u32 0, .int .u32 0, .int .u32 0, .int .u32 0] [(0, 17, (.l 0))]⟩,
    ⟨none, .bsl 1 1 [.nils] [(0, 1, (.l 0))]⟩,
    ⟨none, .app 1 (.l 4) (.l 0)⟩,
    ⟨none, .mov (.l 0)⟩] [(9, 0)] []) (
  .skip))) (
  .seq (.seq (.reg false [⟨none, .fa 17 (.r 8)⟩,
    ⟨none, .ld false 1 (.l 0)⟩,
    ⟨none, .len (.l 0)⟩,
    ⟨none, .mov (.v (.c (.d (.int .i64 0))))⟩] [(24, 2), (25, 1), (26, 0)] []) (
  .block 4 (
  .seq (.fresh 9 none 1) (
  .loop (some [1, 3, 4, 6, 7, 9, 15, 16, 17, 19, 20, 21, 24, 25, 26]) fn260L2)))) (
  .reg false [⟨none, .mov (.r 6)⟩,
    ⟨none, .mov (.r 7)⟩,
    ⟨none, .mov (.r 9)⟩,
    ⟨none, .vc 285 [(.l 0)]⟩,
    ⟨none, .ixa 1 (.l 3) (.l 2)⟩,
    ⟨none, .st 1 (.l 0) (.l 1)⟩] [] [])))))) (
  .reg false [⟨none, .bin .add (.r 21) (.v (.c (.d (.int .i64 1))))⟩,
    ⟨none, .mov (.l 0)⟩] [(21, 0)] [])))
def fn260L4 : I := .seq (.reg false [⟨none, .bin .lss (.r 17) (.r 16)⟩] [(18, 0)] []) (
  .seq (.cond (.r 18) (
  .skip) (
  .exit 0)) (
  .seq (.block 1 (
  .seq (.reg false [⟨none, .mov (.r 17)⟩,
    ⟨none, .ixa 1 (.r 15) (.r 17)⟩,
    ⟨none, .ld true 1 (.l 0)⟩,
    ⟨none, .pre⟩,
    ⟨none, .mov (.l 3)⟩,
    ⟨none, .ini 1 (.l 2)⟩] [(4, 1), (5, 0)] []) (
  .seq (.reg false [⟨none, .fa 0 (.r 5)⟩,
    ⟨none, .ld false 1 (.l 0)⟩,
    ⟨none, .len (.l 0)⟩,
    ⟨none, .mks 1 24 [.nils] (.l 0) (.l 0)⟩,
    ⟨none, .mov (.l 0)⟩] [(6, 0)] []) (
  .seq (.seq (.reg false [⟨none, .fa 0 (.r 5)⟩,
    ⟨none, .ld false 1 (.l 0)⟩,
    ⟨none, .len (.l 0)⟩,
    ⟨none, .mov (.v (.c (.d (.int .i64 0))))⟩] [(19, 2), (20, 1), (21, 0)] []) (
  .block 2 (
  .seq (.fresh 9 none 1) (
  .loop (some [1, 3, 4, 6, 15, 16, 17, 19, 20, 21]) fn260L3)))) (
  .reg false [⟨none, .mov (.r 6)⟩,
    ⟨none, .mov (.l 0)⟩] [(3, 0)] []))))) (
  .reg false [⟨none, .bin .add (.r 17) (.v (.c (.d (.int .i64 1))))⟩,
    ⟨none, .mov (.l 0)⟩] [(17, 0)] [])))
/-- (vidimus/extracts.view).places -/
def fn260 : Fn := ⟨1, 37, [0, 1, 2, 3, 4, 5, 6, 7, 8, 9, 11, 12, 13, 14, 16, 19, 20, 21, 22, 31, 32, 33, 34, 45, 53, 54, 55, 56, 76, 77, 78, 79, 83, 84, 85, 86, 108], [.r 2],
  .seq (.reg false [⟨none, .box (.r 0)⟩,
    ⟨none, .mov (.v (.c (.d (.nilm))))⟩] [(1, 1), (2, 0)] []) (
  .seq (.reg false [⟨none, .mov (.v (.c (.d (.nils))))⟩] [(3, 0)] []) (
  .seq (.seq (.reg false [⟨none, .fa 0 (.r 1)⟩,
    ⟨none, .fa 0 (.l 0)⟩,
    ⟨none, .ld false 1 (.l 0)⟩,
    ⟨none, .len (.l 0)⟩,
    ⟨none, .mov (.v (.c (.d (.int .i64 0))))⟩] [(15, 2), (16, 1), (17, 0)] []) (
  .block 0 (
  .seq (.fresh 9 none 1) (
  .loop (some [1, 3, 15, 16, 17]) fn260L4)))) (
  .seq (.reg false [⟨none, .mkm⟩,
    ⟨none, .mov (.l 0)⟩] [(11, 0)] []) (
  .seq (.seq (.reg false [⟨none, .mov (.r 3)⟩,
    ⟨none, .len (.l 0)⟩,
    ⟨none, .mov (.v (.c (.d (.int .i64 0))))⟩] [(28, 2), (29, 1), (30, 0)] []) (
  .block 6 (
  .loop (some [1, 11, 28, 29, 30]) fn260L1))) (
  .seq (.reg false [⟨none, .mov (.r 11)⟩,
    ⟨none, .mov (.l 0)⟩] [(2, 0)] []) (
  .ret))))))⟩

/-- vidimus/extracts.exact[vidimus/api.Grant] -/
def fn262 : Fn := ⟨1, 3, [0, 2, 5], [.r 1],
  .seq (.reg false [⟨none, .mov (.v (.c (.d (.nils))))⟩] [(1, 0)] []) (
  .seq (.seq (.reg false [⟨none, .mov (.r 0)⟩,
    ⟨none, .len (.l 0)⟩,
    ⟨none, .bin .eql (.l 0) (.v (.c (.d (.int .i64 0))))⟩] [(2, 0)] []) (
  .cond (.r 2) (
  .seq (.reg false [⟨none, .mov (.v (.c (.d (.nils))))⟩] [(1, 0)] []) (
  .ret)) (
  .skip))) (
  .seq (.reg false [⟨none, .mov (.r 0)⟩,
    ⟨none, .len (.l 0)⟩,
    ⟨none, .mks 18 96 [.int .u8 0, .int .u32 0, .int .u32 0, .int .u32 0, .int .u32 0, .int .u32 0, .int .u32 0, .int .u32 0, .int .u32 0, .int .u32 0, .int .u32 0, .int .u32 0, .int .u32 0, .int .u32 0, .int .u32 0, .int .u32 0, .int .u32 0, .nils] (.v (.c (.d (.int .i64 0)))) (.l 0)⟩,
    ⟨none, .mov (.r 0)⟩,
    ⟨none, .app 18 (.l 1) (.l 0)⟩,
    ⟨none, .mov (.l 0)⟩] [(1, 0)] []) (
  .ret)))⟩

/-- vidimus/counters.within[int] -/
def fn263 : Fn := ⟨3, 4, [0, 1, 2, 6], [.r 3],
  .seq (.reg false [⟨none, .mov (.v (.c (.d (.bool false))))⟩] [(3, 0)] []) (
  .seq (.reg false [⟨none, .mov (.r 0)⟩,
    ⟨none, .mov (.r 1)⟩,
    ⟨none, .mm false (.l 1) (.l 0)⟩,
    ⟨none, .mov (.r 1)⟩,
    ⟨none, .bin .eql (.l 1) (.l 0)⟩,
    ⟨none, .mov (.l 0)⟩,
    ⟨some (0, true), .mov (.r 0)⟩,
    ⟨some (1, true), .mov (.r 2)⟩,
    ⟨some (2, true), .mm true (.l 1) (.l 0)⟩,
    ⟨some (3, true), .mov (.r 2)⟩,
    ⟨some (4, true), .bin .eql (.l 1) (.l 0)⟩,
    ⟨none, .pick (.l 5) (.l 0) (.v (.c (.d (.bool false))))⟩,
    ⟨none, .mov (.l 0)⟩] [(3, 0)] []) (
  .ret))⟩

/-- vidimus/counters.start -/
def fn264 : Fn := ⟨2, 6, [0, 1, 2, 3, 4, 5], [.cell 4 3 true],
  .seq (.reg false [⟨none, .box (.r 0)⟩,
    ⟨none, .box (.r 1)⟩,
    ⟨none, .new [.int .i64 0, .int .i64 0, .int .i64 0]⟩] [(2, 2), (3, 1), (4, 0)] []) (
  .seq (.reg false [⟨none, .mkf 293 [] [(.r 2)]⟩,
    ⟨none, .mov (.l 0)⟩] [(5, 0)] []) (
  .seq (.regk true [⟨none, .mov (.r 5)⟩,
    ⟨none, .fa 1 (.r 3)⟩,
    ⟨none, .ld false 1 (.l 0)⟩,
    ⟨none, .hc (.l 2) [(.l 0)]⟩,
    ⟨none, .mov (.r 5)⟩,
    ⟨none, .fa 2 (.r 3)⟩,
    ⟨none, .ld false 1 (.l 0)⟩,
    ⟨none, .hc (.l 2) [(.l 0)]⟩,
    ⟨none, .mov (.r 5)⟩,
    ⟨none, .fa 3 (.r 3)⟩,
    ⟨none, .ld false 1 (.l 0)⟩,
    ⟨none, .hc (.l 2) [(.l 0)]⟩,
    ⟨none, .bld [.int .i64 0, .int .i64 0, .int .i64 0] [(0, 1, (.l 8)), (1, 1, (.l 4)), (2, 1, (.l 0))]⟩,
    ⟨none, .st 3 (.r 4) (.l 0)⟩] [] [3] []) (
  .ret)))⟩

/-- vidimus/graphs.exact[vidimus/api.Mapping] -/
def fn268 : Fn := ⟨1, 3, [0, 2, 5], [.r 1],
  .seq (.reg false [⟨none, .mov (.v (.c (.d (.nils))))⟩] [(1, 0)] []) (
  .seq (.seq (.reg false [⟨none, .mov (.r 0)⟩,
    ⟨none, .len (.l 0)⟩,
    ⟨none, .bin .eql (.l 0) (.v (.c (.d (.int .i64 0))))⟩] [(2, 0)] []) (
  .cond (.r 2) (
  .seq (.reg false [⟨none, .mov (.v (.c (.d (.nils))))⟩] [(1, 0)] []) (
  .ret)) (
  .skip))) (
  .seq (.reg false [⟨none, .mov (.r 0)⟩,
    ⟨none, .len (.l 0)⟩,
    ⟨none, .mks 34 136 [.int .u8 0, .int .u32 0, .int .u32 0, .int .u32 0, .int .u32 0, .int .u32 0, .int .u32 0, .int .u32 0, .int .u32 0, .int .u32 0, .int .u32 0, .int .u32 0, .int .u32 0, .int .u32 0, .int .u32 0, .int .u32 0, .int .u32 0, .int .u8 0, .int .u32 0, .int .u32 0, .int .u32 0, .int .u32 0, .int .u32 0, .int .u32 0, .int .u32 0, .int .u32 0, .int .u32 0, .int .u32 0, .int .u32 0, .int .u32 0, .int .u32 0, .int .u32 0, .int .u32 0, .int .u32 0] (.v (.c (.d (.int .i64 0)))) (.l 0)⟩,
    ⟨none, .mov (.r 0)⟩,
    ⟨none, .app 34 (.l 1) (.l 0)⟩,
    ⟨none, .mov (.l 0)⟩] [(1, 0)] []) (
  .ret)))⟩

/-- vidimus/graphs.exact[vidimus/api.Policy] -/
def fn269 : Fn := ⟨1, 3, [0, 2, 5], [.r 1],
  .seq (.reg false [⟨none, .mov (.v (.c (.d (.nils))))⟩] [(1, 0)] []) (
  .seq (.seq (.reg false [⟨none, .mov (.r 0)⟩,
    ⟨none, .len (.l 0)⟩,
    ⟨none, .bin .eql (.l 0) (.v (.c (.d (.int .i64 0))))⟩] [(2, 0)] []) (
  .cond (.r 2) (
  .seq (.reg false [⟨none, .mov (.v (.c (.d (.nils))))⟩] [(1, 0)] []) (
  .ret)) (
  .skip))) (
  .seq (.reg false [⟨none, .mov (.r 0)⟩,
    ⟨none, .len (.l 0)⟩,
    ⟨none, .mks 18 96 [.int .u8 0, .int .u32 0, .int .u32 0, .int .u32 0, .int .u32 0, .int .u32 0, .int .u32 0, .int .u32 0, .int .u32 0, .int .u32 0, .int .u32 0, .int .u32 0, .int .u32 0, .int .u32 0, .int .u32 0, .int .u32 0, .int .u32 0, .nils] (.v (.c (.d (.int .i64 0)))) (.l 0)⟩,
    ⟨none, .mov (.r 0)⟩,
    ⟨none, .app 18 (.l 1) (.l 0)⟩,
    ⟨none, .mov (.l 0)⟩] [(1, 0)] []) (
  .ret)))⟩

def fn270L0 : I := .seq (.reg false [⟨none, .bin .lss (.r 7) (.r 6)⟩] [(8, 0)] []) (
  .seq (.cond (.r 8) (
  .skip) (
  .exit 0)) (
  .seq (.block 1 (
  .seq (.reg false [⟨none, .mov (.r 7)⟩,
    ⟨none, .ixa 27 (.r 5) (.r 7)⟩,
    ⟨none, .ld true 27 (.l 0)⟩,
    ⟨none, .pre⟩,
    ⟨none, .mov (.l 3)⟩,
    ⟨none, .ini 27 (.l 2)⟩] [(3, 1), (4, 0)] []) (
  .seq (.reg false [⟨none, .mov (.r 2)⟩,
    ⟨none, .mov (.r 3)⟩,
    ⟨none, .fa 5 (.r 4)⟩,
    ⟨none, .ld false 1 (.l 0)⟩,
    ⟨none, .hc (.v (.c (.d (.fn 296 [] [])))) [(.l 0)]⟩,
    ⟨none, .ixa 27 (.l 4) (.l 3)⟩,
    ⟨none, .fa 5 (.l 0)⟩,
    ⟨none, .st 1 (.l 0) (.l 2)⟩] [] []) (
  .reg false [⟨none, .mov (.r 2)⟩,
    ⟨none, .mov (.r 3)⟩,
    ⟨none, .fa 26 (.r 4)⟩,
    ⟨none, .ld false 1 (.l 0)⟩,
    ⟨none, .hc (.v (.c (.d (.fn 297 [] [])))) [(.l 0)]⟩,
    ⟨none, .ixa 27 (.l 4) (.l 3)⟩,
    ⟨none, .fa 26 (.l 0)⟩,
    ⟨none, .st 1 (.l 0) (.l 2)⟩] [] [])))) (
  .reg false [⟨none, .bin .add (.r 7) (.v (.c (.d (.int .i64 1))))⟩,
    ⟨none, .mov (.l 0)⟩] [(7, 0)] [])))
/-- vidimus/graphs.notes -/
def fn270 : Fn := ⟨1, 9, [0, 2, 3, 4, 5, 8, 9, 10, 11], [.r 1],
  .seq (.reg false [⟨none, .mov (.v (.c (.d (.nils))))⟩] [(1, 0)] []) (
  .seq (.reg false [⟨none, .mov (.r 0)⟩,
    ⟨none, .hc (.v (.c (.d (.fn 295 [] [])))) [(.l 0)]⟩,
    ⟨none, .mov (.l 0)⟩] [(2, 0)] []) (
  .seq (.seq (.reg false [⟨none, .mov (.r 2)⟩,
    ⟨none, .len (.l 0)⟩,
    ⟨none, .mov (.v (.c (.d (.int .i64 0))))⟩] [(5, 2), (6, 1), (7, 0)] []) (
  .block 0 (
  .loop (some [2, 5, 6, 7]) fn270L0))) (
  .seq (.reg false [⟨none, .mov (.r 2)⟩,
    ⟨none, .mov (.l 0)⟩] [(1, 0)] []) (
  .ret))))⟩

/-- vidimus/graphs.exact[int] -/
def fn279 : Fn := ⟨1, 3, [0, 2, 5], [.r 1],
  .seq (.reg false [⟨none, .mov (.v (.c (.d (.nils))))⟩] [(1, 0)] []) (
  .seq (.seq (.reg false [⟨none, .mov (.r 0)⟩,
    ⟨none, .len (.l 0)⟩,
    ⟨none, .bin .eql (.l 0) (.v (.c (.d (.int .i64 0))))⟩] [(2, 0)] []) (
  .cond (.r 2) (
  .seq (.reg false [⟨none, .mov (.v (.c (.d (.nils))))⟩] [(1, 0)] []) (
  .ret)) (
  .skip))) (
  .seq (.reg false [⟨none, .mov (.r 0)⟩,
    ⟨none, .len (.l 0)⟩,
    ⟨none, .mks 1 8 [.int .i64 0] (.v (.c (.d (.int .i64 0)))) (.l 0)⟩,
    ⟨none, .mov (.r 0)⟩,
    ⟨none, .app 1 (.l 1) (.l 0)⟩,
    ⟨none, .mov (.l 0)⟩] [(1, 0)] []) (
  .ret)))⟩

/-- vidimus/counters.Check -/
def fn280 : Fn := ⟨1, 4, [0, 1, 2, 15], [.r 2],
  .seq (.reg false [⟨none, .box (.r 0)⟩,
    ⟨none, .mov (.v (.c (.d (.int .i64 0))))⟩] [(1, 1), (2, 0)] []) (
  .seq (.seq (.reg false [⟨none, .fa 0 (.r 1)⟩,
    ⟨none, .ld false 1 (.l 0)⟩,
    ⟨none, .vc 263 [(.l 0), (.v (.c (.d (.int .i64 0)))), (.v (.c (.d (.int .i64 65))))]⟩,
    ⟨none, .mov (.l 0)⟩,
    ⟨some (0, true), .fa 1 (.r 1)⟩,
    ⟨some (1, true), .ld false 1 (.l 0)⟩,
    ⟨some (2, true), .vc 263 [(.l 0), (.v (.c (.d (.int .i64 0)))), (.v (.c (.d (.int .i64 65))))]⟩,
    ⟨none, .pick (.l 3) (.l 0) (.v (.c (.d (.bool false))))⟩,
    ⟨none, .mov (.l 0)⟩,
    ⟨some (0, true), .fa 2 (.r 1)⟩,
    ⟨some (1, true), .ld false 1 (.l 0)⟩,
    ⟨some (2, true), .vc 263 [(.l 0), (.v (.c (.d (.int .i64 0)))), (.v (.c (.d (.int .i64 65))))]⟩,
    ⟨none, .pick (.l 3) (.l 0) (.v (.c (.d (.bool false))))⟩] [(3, 0)] []) (
  .cond (.r 3) (
  .seq (.reg false [⟨none, .mov (.v (.c (.d (.int .i64 0))))⟩] [(2, 0)] []) (
  .ret)) (
  .skip))) (
  .seq (.reg false [⟨none, .mov (.v (.c (.d (.int .i64 1))))⟩] [(2, 0)] []) (
  .ret)))⟩

def fn281L0 : I := .seq (.nxm (.r 3) 4 5) (
  .seq (.cond (.r 5) (
  .skip) (
  .exit 0)) (
  .block 1 (
  .seq (.reg false [⟨none, .ent (.r 3)⟩,
    ⟨none, .ext (.l 0) 0⟩,
    ⟨none, .pre⟩,
    ⟨none, .ini 17 (.l 1)⟩] [(2, 0)] []) (
  .seq (.reg false [⟨none, .mov (.r 0)⟩,
    ⟨none, .ld true 17 (.r 2)⟩,
    ⟨none, .hc (.l 1) [(.l 0)]⟩,
    ⟨none, .un .not (.l 0)⟩] [(6, 0)] []) (
  .cond (.r 6) (
  .ret) (
  .skip))))))
/-- (vidimus/extracts.set[vidimus/api.OID]).all$1 -/
def fn281 : Fn := ⟨2, 7, [0, 1, 3, 5, 6, 7, 13], [],
  .seq (.reg false [⟨none, .ld false 1 (.r 1)⟩,
    ⟨none, .rgm (.l 0)⟩] [(3, 0)] []) (
  .block 0 (
  .loop (some [0, 3]) fn281L0))⟩

def fn282L0 : I := .block 1 (
  .seq (.reg false [⟨none, .mov (.r 2)⟩,
    ⟨none, .mov (.r 1)⟩,
    ⟨none, .bin .sub (.l 1) (.l 0)⟩,
    ⟨none, .mov (.l 0)⟩] [(7, 0)] []) (
  .seq (.seq (.reg false [⟨none, .mov (.r 7)⟩,
    ⟨none, .bin .leq (.l 0) (.v (.c (.d (.int .i64 12))))⟩] [(16, 0)] []) (
  .cond (.r 16) (
  .seq (.reg false [⟨none, .mov (.r 0)⟩,
    ⟨none, .mov (.r 1)⟩,
    ⟨none, .mov (.r 2)⟩,
    ⟨none, .mov (.r 4)⟩,
    ⟨none, .hc (.v (.c (.d (.fn 303 [] [])))) [(.l 3), (.l 2), (.l 1), (.l 0)]⟩] [] []) (
  .ret)) (
  .skip))) (
  .seq (.seq (.reg false [⟨none, .mov (.r 3)⟩,
    ⟨none, .bin .eql (.l 0) (.v (.c (.d (.int .i64 0))))⟩] [(17, 0)] []) (
  .cond (.r 17) (
  .seq (.reg false [⟨none, .mov (.r 0)⟩,
    ⟨none, .mov (.r 1)⟩,
    ⟨none, .mov (.r 2)⟩,
    ⟨none, .mov (.r 4)⟩,
    ⟨none, .hc (.v (.c (.d (.fn 304 [] [])))) [(.l 3), (.l 2), (.l 1), (.l 0)]⟩] [] []) (
  .ret)) (
  .skip))) (
  .seq (.seq (.reg false [⟨none, .mov (.r 5)⟩,
    ⟨none, .un .not (.l 0)⟩] [(18, 0)] []) (
  .cond (.r 18) (
  .seq (.reg false [⟨none, .mov (.r 0)⟩,
    ⟨none, .mov (.r 1)⟩,
    ⟨none, .mov (.r 2)⟩,
    ⟨none, .mov (.r 4)⟩,
    ⟨none, .hc (.v (.c (.d (.fn 305 [] [])))) [(.l 3), (.l 2), (.l 1), (.l 0)]⟩] [] []) (
  .reg false [⟨none, .mov (.r 3)⟩,
    ⟨none, .bin .sub (.l 0) (.v (.c (.d (.int .i64 1))))⟩,
    ⟨none, .mov (.l 0)⟩] [(3, 0)] [])) (
  .skip))) (
  .seq (.reg false [⟨none, .mov (.r 0)⟩,
    ⟨none, .mov (.r 1)⟩,
    ⟨none, .mov (.r 2)⟩,
    ⟨none, .mov (.r 4)⟩,
    ⟨none, .hc (.v (.c (.d (.fn 306 [] [])))) [(.l 3), (.l 2), (.l 1), (.l 0)]⟩,
    ⟨none, .mov (.l 0)⟩,
    ⟨none, .ext (.l 0) 0⟩,
    ⟨none, .ext (.l 1) 1⟩,
    ⟨none, .mov (.l 1)⟩,
    ⟨none, .mov (.l 1)⟩] [(8, 1), (9, 0)] []) (
  .seq (.seq (.reg false [⟨none, .mov (.r 9)⟩,
    ⟨none, .bin .eql (.l 0) (.v (.c (.d (.int .i64 2))))⟩] [(19, 0)] []) (
  .cond (.r 19) (
  .seq (.reg false [⟨none, .mov (.r 0)⟩,
    ⟨none, .mov (.r 1)⟩,
    ⟨none, .mov (.r 2)⟩,
    ⟨none, .mov (.r 4)⟩,
    ⟨none, .hc (.v (.c (.d (.fn 307 [] [])))) [(.l 3), (.l 2), (.l 1), (.l 0)]⟩] [] []) (
  .seq (.reg false [⟨none, .mov (.r 2)⟩,
    ⟨none, .bin .sub (.l 0) (.v (.c (.d (.int .i64 1))))⟩,
    ⟨none, .mov (.r 8)⟩,
    ⟨none, .mov (.r 1)⟩,
    ⟨none, .bin .sub (.l 1) (.l 0)⟩,
    ⟨none, .bin .sub (.l 3) (.l 0)⟩,
    ⟨none, .mov (.l 0)⟩] [(8, 0)] []) (
  .reg false [⟨none, .mov (.v (.c (.d (.int .i64 1))))⟩] [(9, 0)] []))) (
  .skip))) (
  .seq (.seq (.reg false [⟨none, .mov (.r 5)⟩,
    ⟨none, .mov (.l 0)⟩,
    ⟨some (0, true), .mov (.r 6)⟩,
    ⟨none, .pick (.l 1) (.l 0) (.v (.c (.d (.bool false))))⟩,
    ⟨none, .mov (.l 0)⟩,
    ⟨some (0, true), .mov (.r 9)⟩,
    ⟨some (1, true), .bin .eql (.l 0) (.v (.c (.d (.int .i64 1))))⟩,
    ⟨none, .pick (.l 2) (.l 0) (.v (.c (.d (.bool false))))⟩] [(20, 0)] []) (
  .cond (.r 20) (
  .seq (.reg false [⟨none, .mov (.r 0)⟩,
    ⟨none, .mov (.r 1)⟩,
    ⟨none, .mov (.r 2)⟩,
    ⟨none, .mov (.r 4)⟩,
    ⟨none, .hc (.v (.c (.d (.fn 308 [] [])))) [(.l 3), (.l 2), (.l 1), (.l 0)]⟩] [(21, 0)] []) (
  .cond (.r 21) (
  .ret) (
  .skip))) (
  .skip))) (
  .seq (.seq (.reg true [⟨none, .mov (.r 1)⟩,
    ⟨none, .bin .gtr (.l 0) (.v (.c (.d (.int .i64 0))))⟩,
    ⟨none, .mov (.l 0)⟩,
    ⟨some (0, true), .mov (.r 4)⟩,
    ⟨some (1, true), .mov (.r 0)⟩,
    ⟨some (2, true), .mov (.r 1)⟩,
    ⟨some (3, true), .bin .sub (.l 0) (.v (.c (.d (.int .i64 1))))⟩,
    ⟨some (4, true), .ixa 17 (.l 2) (.l 0)⟩,
    ⟨some (5, true), .ld true 17 (.l 0)⟩,
    ⟨some (6, true), .mov (.r 0)⟩,
    ⟨some (7, true), .mov (.r 8)⟩,
    ⟨some (8, true), .ixa 17 (.l 1) (.l 0)⟩,
    ⟨some (9, true), .ld true 17 (.l 0)⟩,
    ⟨some (10, true), .hc (.l 9) [(.l 4), (.l 0)]⟩,
    ⟨some (11, true), .bin .lss (.l 0) (.v (.c (.d (.int .i64 0))))⟩,
    ⟨some (12, true), .un .not (.l 0)⟩,
    ⟨none, .pick (.l 13) (.l 0) (.v (.c (.d (.bool false))))⟩] [(22, 0)] []) (
  .cond (.r 22) (
  .seq (.reg false [⟨none, .mov (.r 0)⟩,
    ⟨none, .mov (.r 1)⟩,
    ⟨none, .mov (.r 2)⟩,
    ⟨none, .mov (.r 8)⟩,
    ⟨none, .mov (.r 4)⟩,
    ⟨none, .hc (.v (.c (.d (.fn 309 [] [])))) [(.l 4), (.l 3), (.l 2), (.l 1), (.l 0)]⟩,
    ⟨none, .mov (.l 0)⟩] [(10, 0)] []) (
  .seq (.reg false [⟨none, .mov (.r 10)⟩,
    ⟨none, .mov (.l 0)⟩] [(1, 0)] []) (
  .exit 1))) (
  .skip))) (
  .seq (.reg false [⟨none, .mov (.r 0)⟩,
    ⟨none, .mov (.r 1)⟩,
    ⟨none, .mov (.r 2)⟩,
    ⟨none, .mov (.r 8)⟩,
    ⟨none, .mov (.r 4)⟩,
    ⟨none, .hc (.v (.c (.d (.fn 310 [] [])))) [(.l 4), (.l 3), (.l 2), (.l 1), (.l 0)]⟩,
    ⟨none, .mov (.l 0)⟩,
    ⟨none, .ext (.l 0) 0⟩,
    ⟨none, .ext (.l 1) 1⟩,
    ⟨none, .mov (.l 1)⟩,
    ⟨none, .mov (.l 1)⟩] [(11, 1), (12, 0)] []) (
  .seq (.reg false [⟨none, .mov (.r 12)⟩,
    ⟨none, .mov (.l 0)⟩] [(6, 0)] []) (
  .seq (.reg false [⟨none, .mov (.r 11)⟩,
    ⟨none, .mov (.r 1)⟩,
    ⟨none, .bin .sub (.l 1) (.l 0)⟩,
    ⟨none, .mov (.r 2)⟩,
    ⟨none, .mov (.r 11)⟩,
    ⟨none, .bin .sub (.l 1) (.l 0)⟩,
    ⟨none, .mov (.l 3)⟩,
    ⟨none, .mov (.l 1)⟩] [(13, 1), (14, 0)] []) (
  .seq (.reg false [⟨none, .mov (.r 7)⟩,
    ⟨none, .bin .quo (.l 0) (.v (.c (.d (.int .i64 8))))⟩,
    ⟨none, .mov (.l 0)⟩] [(15, 0)] []) (
  .seq (.reg false [⟨none, .mov (.r 13)⟩,
    ⟨none, .mov (.r 14)⟩,
    ⟨none, .bin .lss (.l 1) (.l 0)⟩] [(23, 0)] []) (
  .cond (.r 23) (
  .seq (.reg false [⟨none, .mov (.r 13)⟩,
    ⟨none, .mov (.r 15)⟩,
    ⟨none, .bin .geq (.l 1) (.l 0)⟩,
    ⟨none, .mov (.l 0)⟩] [(5, 0)] []) (
  .seq (.reg false [⟨none, .mov (.r 0)⟩,
    ⟨none, .mov (.r 1)⟩,
    ⟨none, .mov (.r 11)⟩,
    ⟨none, .mov (.r 3)⟩,
    ⟨none, .mov (.r 4)⟩,
    ⟨none, .hc (.v (.c (.d (.fn 282 [] [])))) [(.l 4), (.l 3), (.l 2), (.l 1), (.l 0)]⟩] [] []) (
  .reg false [⟨none, .mov (.r 11)⟩,
    ⟨none, .bin .add (.l 0) (.v (.c (.d (.int .i64 1))))⟩,
    ⟨none, .mov (.l 0)⟩] [(1, 0)] []))) (
  .seq (.reg false [⟨none, .mov (.r 14)⟩,
    ⟨none, .mov (.r 15)⟩,
    ⟨none, .bin .geq (.l 1) (.l 0)⟩,
    ⟨none, .mov (.l 0)⟩] [(5, 0)] []) (
  .seq (.reg false [⟨none, .mov (.r 0)⟩,
    ⟨none, .mov (.r 11)⟩,
    ⟨none, .bin .add (.l 0) (.v (.c (.d (.int .i64 1))))⟩,
    ⟨none, .mov (.r 2)⟩,
    ⟨none, .mov (.r 3)⟩,
    ⟨none, .mov (.r 4)⟩,
    ⟨none, .hc (.v (.c (.d (.fn 282 [] [])))) [(.l 5), (.l 3), (.l 2), (.l 1), (.l 0)]⟩] [] []) (
  .reg false [⟨none, .mov (.r 11)⟩,
    ⟨none, .mov (.l 0)⟩] [(2, 0)] [])))))))))))))))))
/-- slices.pdqsortCmpFunc[vidimus/api.OID] -/
def fn282 : Fn := ⟨5, 24, [0, 1, 2, 3, 4, 10, 11, 12, 13, 14, 15, 16, 17, 18, 19, 20, 25, 32, 39, 56, 75, 80, 97, 125], [],
  .seq (.reg false [⟨none, .mov (.v (.c (.d (.bool true))))⟩] [(5, 0)] []) (
  .seq (.reg false [⟨none, .mov (.v (.c (.d (.bool true))))⟩] [(6, 0)] []) (
  .block 0 (
  .loop (some [0, 1, 2, 3, 4, 5, 6]) fn282L0)))⟩

/-- math/bits.Len -/
def fn283 : Fn := ⟨1, 2, [0, 2], [.r 1],
  .seq (.reg false [⟨none, .mov (.v (.c (.d (.int .i64 0))))⟩] [(1, 0)] []) (
  .seq (.cond (.v (.c (.d (.bool false)))) (
  .seq (.reg false [⟨none, .mov (.r 0)⟩,
    ⟨none, .cvi .u32 (.l 0)⟩,
    ⟨none, .vc 311 [(.l 0)]⟩,
    ⟨none, .mov (.l 0)⟩] [(1, 0)] []) (
  .ret)) (
  .skip)) (
  .seq (.reg false [⟨none, .mov (.r 0)⟩,
    ⟨none, .vc 312 [(.l 0)]⟩,
    ⟨none, .mov (.l 0)⟩] [(1, 0)] []) (
  .ret)))⟩

def fn284L0 : I := .seq (.reg false [⟨none, .bin .lss (.r 5) (.r 4)⟩] [(6, 0)] []) (
  .seq (.cond (.r 6) (
  .skip) (
  .exit 0)) (
  .seq (.block 1 (
  .seq (.reg false [⟨none, .mov (.r 5)⟩,
    ⟨none, .mov (.l 0)⟩] [(3, 0)] []) (
  .seq (.reg false [⟨none, .mov (.r 1)⟩,
    ⟨none, .mov (.r 0)⟩,
    ⟨none, .mov (.r 3)⟩,
    ⟨none, .ixa 1 (.l 1) (.l 0)⟩,
    ⟨none, .ld false 1 (.l 0)⟩,
    ⟨none, .beq false (.l 4) (.l 0)⟩] [(7, 0)] []) (
  .cond (.r 7) (
  .seq (.reg false [⟨none, .mov (.r 3)⟩,
    ⟨none, .mov (.l 0)⟩] [(2, 0)] []) (
  .ret)) (
  .skip))))) (
  .reg false [⟨none, .bin .add (.r 5) (.v (.c (.d (.int .i64 1))))⟩,
    ⟨none, .mov (.l 0)⟩] [(5, 0)] [])))
/-- slices.Index[[]bool,bool] -/
def fn284 : Fn := ⟨2, 8, [0, 1, 4, 5, 7, 8, 9, 16], [.r 2],
  .seq (.reg false [⟨none, .mov (.v (.c (.d (.int .i64 0))))⟩] [(2, 0)] []) (
  .seq (.seq (.reg false [⟨none, .mov (.r 0)⟩,
    ⟨none, .len (.l 0)⟩,
    ⟨none, .mov (.v (.c (.d (.int .i64 0))))⟩] [(4, 1), (5, 0)] []) (
  .block 0 (
  .loop (some [0, 1, 4, 5]) fn284L0))) (
  .seq (.reg false [⟨none, .mov (.v (.c (.d (.int .i64 (-1)))))⟩] [(2, 0)] []) (
  .ret)))⟩

/-- vidimus/extracts.union -/
def fn285 : Fn := ⟨1, 4, [0, 2, 3, 6], [.r 1],
  .seq (.reg false [⟨none, .mov (.v (.c (.d (.nils))))⟩] [(1, 0)] []) (
  .seq (.seq (.reg false [⟨none, .mov (.r 0)⟩,
    ⟨none, .len (.l 0)⟩,
    ⟨none, .bin .eql (.l 0) (.v (.c (.d (.int .i64 1))))⟩] [(3, 0)] []) (
  .cond (.r 3) (
  .seq (.reg false [⟨none, .mov (.r 0)⟩,
    ⟨none, .ixa 1 (.l 0) (.v (.c (.d (.int .i64 0))))⟩,
    ⟨none, .ld false 1 (.l 0)⟩,
    ⟨none, .mov (.l 0)⟩] [(1, 0)] []) (
  .ret)) (
  .skip))) (
  .seq (.reg false [⟨none, .mov (.r 0)⟩,
    ⟨none, .vc 313 [(.l 0)]⟩,
    ⟨none, .mov (.l 0)⟩] [(2, 0)] []) (
  .seq (.reg false [⟨none, .mov (.r 2)⟩,
    ⟨none, .hc (.v (.c (.d (.fn 255 [] [])))) [(.l 0), (.v (.c (.d (.fn 104 [] []))))]⟩] [] []) (
  .seq (.reg false [⟨none, .mov (.r 2)⟩,
    ⟨none, .hc (.v (.c (.d (.fn 314 [] [])))) [(.l 0)]⟩,
    ⟨none, .mov (.l 0)⟩] [(1, 0)] []) (
  .ret)))))⟩

/-- vidimus/counters.start$1 -/
def fn293 : Fn := ⟨2, 4, [0, 1, 3, 4], [.r 2],
  .seq (.reg false [⟨none, .mov (.v (.c (.d (.int .i64 0))))⟩] [(2, 0)] []) (
  .seq (.seq (.reg false [⟨none, .mov (.r 0)⟩] [(3, 0)] []) (
  .cond (.r 3) (
  .seq (.reg false [⟨none, .mov (.v (.c (.d (.int .i64 0))))⟩] [(2, 0)] []) (
  .ret)) (
  .skip))) (
  .seq (.reg false [⟨none, .ld false 1 (.r 1)⟩,
    ⟨none, .bin .add (.l 0) (.v (.c (.d (.int .i64 1))))⟩,
    ⟨none, .mov (.l 0)⟩] [(2, 0)] []) (
  .ret)))⟩

/-- vidimus/graphs.exact[vidimus/api.Qualifier] -/
def fn295 : Fn := ⟨1, 3, [0, 2, 5], [.r 1],
  .seq (.reg false [⟨none, .mov (.v (.c (.d (.nils))))⟩] [(1, 0)] []) (
  .seq (.seq (.reg false [⟨none, .mov (.r 0)⟩,
    ⟨none, .len (.l 0)⟩,
    ⟨none, .bin .eql (.l 0) (.v (.c (.d (.int .i64 0))))⟩] [(2, 0)] []) (
  .cond (.r 2) (
  .seq (.reg false [⟨none, .mov (.v (.c (.d (.nils))))⟩] [(1, 0)] []) (
  .ret)) (
  .skip))) (
  .seq (.reg false [⟨none, .mov (.r 0)⟩,
    ⟨none, .len (.l 0)⟩,
    ⟨none, .mks 27 208 [.int .u8 0, .str [], .bool false, .int .u32 0, .str [], .nils, .bool false, .int .u32 0, .str [], .int .u8 0, .int .u32 0, .int .u32 0, .int .u32 0, .int .u32 0, .int .u32 0, .int .u32 0, .int .u32 0, .int .u32 0, .int .u32 0, .int .u32 0, .int .u32 0, .int .u32 0, .int .u32 0, .int .u32 0, .int .u32 0, .int .u32 0, .nils] (.v (.c (.d (.int .i64 0)))) (.l 0)⟩,
    ⟨none, .mov (.r 0)⟩,
    ⟨none, .app 27 (.l 1) (.l 0)⟩,
    ⟨none, .mov (.l 0)⟩] [(1, 0)] []) (
  .ret)))⟩

def fn303L0 : I := .seq (.seq (.reg true [⟨none, .mov (.r 5)⟩,
    ⟨none, .mov (.r 1)⟩,
    ⟨none, .bin .gtr (.l 1) (.l 0)⟩,
    ⟨none, .mov (.l 0)⟩,
    ⟨some (0, true), .mov (.r 3)⟩,
    ⟨some (1, true), .mov (.r 0)⟩,
    ⟨some (2, true), .mov (.r 5)⟩,
    ⟨some (3, true), .ixa 17 (.l 1) (.l 0)⟩,
    ⟨some (4, true), .ld true 17 (.l 0)⟩,
    ⟨some (5, true), .mov (.r 0)⟩,
    ⟨some (6, true), .mov (.r 5)⟩,
    ⟨some (7, true), .bin .sub (.l 0) (.v (.c (.d (.int .i64 1))))⟩,
    ⟨some (8, true), .ixa 17 (.l 2) (.l 0)⟩,
    ⟨some (9, true), .ld true 17 (.l 0)⟩,
    ⟨some (10, true), .hc (.l 9) [(.l 5), (.l 0)]⟩,
    ⟨some (11, true), .bin .lss (.l 0) (.v (.c (.d (.int .i64 0))))⟩,
    ⟨none, .pick (.l 12) (.l 0) (.v (.c (.d (.bool false))))⟩] [(7, 0)] []) (
  .cond (.r 7) (
  .skip) (
  .exit 2))) (
  .seq (.block 3 (
  .reg true [⟨none, .mov (.r 0)⟩,
    ⟨none, .mov (.r 5)⟩,
    ⟨none, .mov (.r 0)⟩,
    ⟨none, .mov (.r 5)⟩,
    ⟨none, .bin .sub (.l 0) (.v (.c (.d (.int .i64 1))))⟩,
    ⟨none, .mov (.r 0)⟩,
    ⟨none, .mov (.r 5)⟩,
    ⟨none, .bin .sub (.l 0) (.v (.c (.d (.int .i64 1))))⟩,
    ⟨none, .ixa 17 (.l 2) (.l 0)⟩,
    ⟨none, .ld true 17 (.l 0)⟩,
    ⟨none, .mov (.r 0)⟩,
    ⟨none, .mov (.r 5)⟩,
    ⟨none, .ixa 17 (.l 1) (.l 0)⟩,
    ⟨none, .ld true 17 (.l 0)⟩,
    ⟨none, .ixa 17 (.l 13) (.l 12)⟩,
    ⟨none, .st 17 (.l 0) (.l 5)⟩,
    ⟨none, .ixa 17 (.l 13) (.l 11)⟩,
    ⟨none, .st 17 (.l 0) (.l 3)⟩] [] [])) (
  .reg false [⟨none, .mov (.r 5)⟩,
    ⟨none, .bin .sub (.l 0) (.v (.c (.d (.int .i64 1))))⟩,
    ⟨none, .mov (.l 0)⟩] [(5, 0)] []))
def fn303L1 : I := .seq (.seq (.reg false [⟨none, .mov (.r 4)⟩,
    ⟨none, .mov (.r 2)⟩,
    ⟨none, .bin .lss (.l 1) (.l 0)⟩] [(6, 0)] []) (
  .cond (.r 6) (
  .skip) (
  .exit 0))) (
  .seq (.block 1 (
  .seq (.reg false [⟨none, .mov (.r 4)⟩,
    ⟨none, .mov (.l 0)⟩] [(5, 0)] []) (
  .block 2 (
  .loop (some [0, 1, 2, 3, 4, 5]) fn303L0)))) (
  .reg false [⟨none, .mov (.r 4)⟩,
    ⟨none, .bin .add (.l 0) (.v (.c (.d (.int .i64 1))))⟩,
    ⟨none, .mov (.l 0)⟩] [(4, 0)] []))
/-- slices.insertionSortCmpFunc[vidimus/api.OID] -/
def fn303 : Fn := ⟨4, 8, [0, 1, 2, 3, 8, 9, 14, 34], [],
  .seq (.reg false [⟨none, .mov (.r 1)⟩,
    ⟨none, .bin .add (.l 0) (.v (.c (.d (.int .i64 1))))⟩,
    ⟨none, .mov (.l 0)⟩] [(4, 0)] []) (
  .block 0 (
  .loop (some [0, 1, 2, 3, 4]) fn303L1))⟩

/-- math/bits.Len64 -/
def fn312 : Fn := ⟨1, 5, [0, 2, 4, 8, 14], [.r 1],
  .seq (.reg false [⟨none, .mov (.v (.c (.d (.int .i64 0))))⟩] [(1, 0)] []) (
  .seq (.seq (.reg false [⟨none, .mov (.r 0)⟩,
    ⟨none, .bin .geq (.l 0) (.v (.c (.d (.int .u64 4294967296))))⟩] [(2, 0)] []) (
  .cond (.r 2) (
  .seq (.reg false [⟨none, .mov (.r 0)⟩,
    ⟨none, .bin .shr (.l 0) (.v (.c (.d (.int .u64 32))))⟩,
    ⟨none, .mov (.l 0)⟩] [(0, 0)] []) (
  .reg false [⟨none, .mov (.v (.c (.d (.int .i64 32))))⟩] [(1, 0)] [])) (
  .skip))) (
  .seq (.seq (.reg false [⟨none, .mov (.r 0)⟩,
    ⟨none, .bin .geq (.l 0) (.v (.c (.d (.int .u64 65536))))⟩] [(3, 0)] []) (
  .cond (.r 3) (
  .seq (.reg false [⟨none, .mov (.r 0)⟩,
    ⟨none, .bin .shr (.l 0) (.v (.c (.d (.int .u64 16))))⟩,
    ⟨none, .mov (.l 0)⟩] [(0, 0)] []) (
  .reg false [⟨none, .mov (.r 1)⟩,
    ⟨none, .bin .add (.l 0) (.v (.c (.d (.int .i64 16))))⟩,
    ⟨none, .mov (.l 0)⟩] [(1, 0)] [])) (
  .skip))) (
  .seq (.seq (.reg false [⟨none, .mov (.r 0)⟩,
    ⟨none, .bin .geq (.l 0) (.v (.c (.d (.int .u64 256))))⟩] [(4, 0)] []) (
  .cond (.r 4) (
  .seq (.reg false [⟨none, .mov (.r 0)⟩,
    ⟨none, .bin .shr (.l 0) (.v (.c (.d (.int .u64 8))))⟩,
    ⟨none, .mov (.l 0)⟩] [(0, 0)] []) (
  .reg false [⟨none, .mov (.r 1)⟩,
    ⟨none, .bin .add (.l 0) (.v (.c (.d (.int .i64 8))))⟩,
    ⟨none, .mov (.l 0)⟩] [(1, 0)] [])) (
  .skip))) (
  .seq (.reg false [⟨none, .mov (.r 1)⟩,
    ⟨none, .mov (.r 0)⟩,
    ⟨none, .cvi .u8 (.l 0)⟩,
    ⟨none, .ixs (.v (.c (.d (.str [0, 1, 2, 2, 3, 3, 3, 3, 4, 4, 4, 4, 4, 4, 4, 4, 5, 5, 5, 5, 5, 5, 5, 5, 5, 5, 5, 5, 5, 5, 5, 5, 6, 6, 6, 6, 6, 6, 6, 6, 6, 6, 6, 6, 6, 6, 6, 6, 6, 6, 6, 6, 6, 6, 6, 6, 6, 6, 6, 6, 6, 6, 6, 6, 7, 7, 7, 7, 7, 7, 7, 7, 7, 7, 7, 7, 7, 7, 7, 7, 7, 7, 7, 7, 7, 7, 7, 7, 7, 7, 7, 7, 7, 7, 7, 7, 7, 7, 7, 7, 7, 7, 7, 7, 7, 7, 7, 7, 7, 7, 7, 7, 7, 7, 7, 7, 7, 7, 7, 7, 7, 7, 7, 7, 7, 7, 7, 7, 8, 8, 8, 8, 8, 8, 8, 8, 8, 8, 8, 8, 8, 8, 8, 8, 8, 8, 8, 8, 8, 8, 8, 8, 8, 8, 8, 8, 8, 8, 8, 8, 8, 8, 8, 8, 8, 8, 8, 8, 8, 8, 8, 8, 8, 8, 8, 8, 8, 8, 8, 8, 8, 8, 8, 8, 8, 8, 8, 8, 8, 8, 8, 8, 8, 8, 8, 8, 8, 8, 8, 8, 8, 8, 8, 8, 8, 8, 8, 8, 8, 8, 8, 8, 8, 8, 8, 8, 8, 8, 8, 8, 8, 8, 8, 8, 8, 8, 8, 8, 8, 8, 8, 8, 8, 8, 8, 8, 8, 8, 8, 8, 8, 8, 8, 8, 8, 8, 8, 8, 8, 8, 8, 8, 8, 8, 8, 8])))) (.l 0)⟩,
    ⟨none, .cvi .i64 (.l 0)⟩,
    ⟨none, .bin .add (.l 4) (.l 0)⟩,
    ⟨none, .mov (.l 0)⟩] [(1, 0)] []) (
  .ret)))))⟩

def fn313L0 : I := .seq (.reg false [⟨none, .bin .lss (.r 13) (.r 12)⟩] [(14, 0)] []) (
  .seq (.cond (.r 14) (
  .skip) (
  .exit 2)) (
  .seq (.block 3 (
  .seq (.reg false [⟨none, .ixa 1 (.r 11) (.r 13)⟩,
    ⟨none, .ld false 1 (.l 0)⟩,
    ⟨none, .mov (.l 0)⟩] [(5, 0)] []) (
  .reg false [⟨none, .mov (.r 4)⟩,
    ⟨none, .mov (.r 5)⟩,
    ⟨none, .app 17 (.l 1) (.l 0)⟩,
    ⟨none, .mov (.l 0)⟩] [(4, 0)] []))) (
  .reg false [⟨none, .bin .add (.r 13) (.v (.c (.d (.int .i64 1))))⟩,
    ⟨none, .mov (.l 0)⟩] [(13, 0)] [])))
def fn313L1 : I := .seq (.reg false [⟨none, .bin .lss (.r 8) (.r 7)⟩] [(9, 0)] []) (
  .seq (.cond (.r 9) (
  .skip) (
  .exit 0)) (
  .seq (.block 1 (
  .seq (.reg false [⟨none, .ixa 1 (.r 6) (.r 8)⟩,
    ⟨none, .ld false 1 (.l 0)⟩,
    ⟨none, .mov (.l 0)⟩] [(3, 0)] []) (
  .seq (.reg false [⟨none, .mov (.r 2)⟩,
    ⟨none, .mov (.r 3)⟩,
    ⟨none, .len (.l 0)⟩,
    ⟨none, .bin .add (.l 2) (.l 0)⟩,
    ⟨none, .mov (.l 0)⟩] [(2, 0)] []) (
  .seq (.reg false [⟨none, .mov (.r 2)⟩,
    ⟨none, .bin .lss (.l 0) (.v (.c (.d (.int .i64 0))))⟩] [(10, 0)] []) (
  .cond (.r 10) (
  .bad) (
  .skip)))))) (
  .reg false [⟨none, .bin .add (.r 8) (.v (.c (.d (.int .i64 1))))⟩,
    ⟨none, .mov (.l 0)⟩] [(8, 0)] [])))
/-- slices.Concat[[]vidimus/api.OID,vidimus/api.OID] -/
def fn313 : Fn := ⟨1, 15, [0, 2, 3, 5, 6, 8, 9, 10, 11, 12, 20, 25, 26, 27, 28], [.r 1],
  .seq (.reg false [⟨none, .mov (.v (.c (.d (.nils))))⟩] [(1, 0)] []) (
  .seq (.reg false [⟨none, .mov (.v (.c (.d (.int .i64 0))))⟩] [(2, 0)] []) (
  .seq (.seq (.reg false [⟨none, .mov (.r 0)⟩,
    ⟨none, .len (.l 0)⟩,
    ⟨none, .mov (.v (.c (.d (.int .i64 0))))⟩] [(6, 2), (7, 1), (8, 0)] []) (
  .block 0 (
  .loop (some [0, 2, 6, 7, 8]) fn313L1))) (
  .seq (.reg false [⟨none, .mov (.r 2)⟩,
    ⟨none, .vc 325 [(.v (.c (.d (.nils)))), (.l 0)]⟩,
    ⟨none, .mov (.l 0)⟩] [(4, 0)] []) (
  .seq (.seq (.reg false [⟨none, .mov (.r 0)⟩,
    ⟨none, .len (.l 0)⟩,
    ⟨none, .mov (.v (.c (.d (.int .i64 0))))⟩] [(11, 2), (12, 1), (13, 0)] []) (
  .block 2 (
  .seq (.fresh 4 none 17) (
  .loop (some [4, 11, 12, 13]) fn313L0)))) (
  .seq (.reg false [⟨none, .mov (.r 4)⟩,
    ⟨none, .mov (.l 0)⟩] [(1, 0)] []) (
  .ret))))))⟩

def fn314L0 : I := .seq (.seq (.reg false [⟨none, .mov (.r 4)⟩,
    ⟨none, .mov (.r 3)⟩,
    ⟨none, .len (.l 0)⟩,
    ⟨none, .bin .lss (.l 2) (.l 0)⟩] [(8, 0)] []) (
  .cond (.r 8) (
  .skip) (
  .exit 2))) (
  .seq (.block 3 (
  .seq (.reg true [⟨none, .mov (.r 3)⟩,
    ⟨none, .mov (.r 4)⟩,
    ⟨none, .ixa 17 (.l 1) (.l 0)⟩,
    ⟨none, .ld true 17 (.l 0)⟩,
    ⟨none, .mov (.r 3)⟩,
    ⟨none, .mov (.r 4)⟩,
    ⟨none, .bin .sub (.l 0) (.v (.c (.d (.int .i64 1))))⟩,
    ⟨none, .ixa 17 (.l 2) (.l 0)⟩,
    ⟨none, .ld true 17 (.l 0)⟩,
    ⟨none, .eqa true 17 (.l 5) (.l 0)⟩] [(9, 0)] []) (
  .cond (.r 9) (
  .seq (.reg false [⟨none, .mov (.r 0)⟩,
    ⟨none, .mov (.r 2)⟩,
    ⟨none, .mov (.r 3)⟩,
    ⟨none, .mov (.r 4)⟩,
    ⟨none, .ixa 17 (.l 1) (.l 0)⟩,
    ⟨none, .ld true 17 (.l 0)⟩,
    ⟨none, .ixa 17 (.l 5) (.l 4)⟩,
    ⟨none, .st 17 (.l 0) (.l 1)⟩] [] []) (
  .reg false [⟨none, .mov (.r 2)⟩,
    ⟨none, .bin .add (.l 0) (.v (.c (.d (.int .i64 1))))⟩,
    ⟨none, .mov (.l 0)⟩] [(2, 0)] [])) (
  .skip)))) (
  .reg false [⟨none, .mov (.r 4)⟩,
    ⟨none, .bin .add (.l 0) (.v (.c (.d (.int .i64 1))))⟩,
    ⟨none, .mov (.l 0)⟩] [(4, 0)] []))
def fn314L1 : I := .seq (.seq (.reg false [⟨none, .mov (.r 2)⟩,
    ⟨none, .mov (.r 0)⟩,
    ⟨none, .len (.l 0)⟩,
    ⟨none, .bin .lss (.l 2) (.l 0)⟩] [(6, 0)] []) (
  .cond (.r 6) (
  .skip) (
  .exit 0))) (
  .seq (.block 1 (
  .seq (.reg true [⟨none, .mov (.r 0)⟩,
    ⟨none, .mov (.r 2)⟩,
    ⟨none, .ixa 17 (.l 1) (.l 0)⟩,
    ⟨none, .ld true 17 (.l 0)⟩,
    ⟨none, .mov (.r 0)⟩,
    ⟨none, .mov (.r 2)⟩,
    ⟨none, .bin .sub (.l 0) (.v (.c (.d (.int .i64 1))))⟩,
    ⟨none, .ixa 17 (.l 2) (.l 0)⟩,
    ⟨none, .ld true 17 (.l 0)⟩,
    ⟨none, .eqa false 17 (.l 5) (.l 0)⟩] [(7, 0)] []) (
  .cond (.r 7) (
  .seq (.reg false [⟨none, .mov (.r 0)⟩,
    ⟨none, .mov (.r 2)⟩,
    ⟨none, .slc 17 (.l 1) (some (.l 0)) none none⟩,
    ⟨none, .mov (.l 0)⟩] [(3, 0)] []) (
  .seq (.seq (.reg false [⟨none, .mov (.v (.c (.d (.int .i64 1))))⟩] [(4, 0)] []) (
  .block 2 (
  .loop (some [0, 2, 3, 4]) fn314L0))) (
  .seq (.reg false [⟨none, .mov (.r 0)⟩,
    ⟨none, .mov (.r 2)⟩,
    ⟨none, .slc 17 (.l 1) (some (.l 0)) none none⟩,
    ⟨none, .clr 17 [.int .u8 0, .int .u32 0, .int .u32 0, .int .u32 0, .int .u32 0, .int .u32 0, .int .u32 0, .int .u32 0, .int .u32 0, .int .u32 0, .int .u32 0, .int .u32 0, .int .u32 0, .int .u32 0, .int .u32 0, .int .u32 0, .int .u32 0] (.l 0)⟩] [] []) (
  .seq (.reg false [⟨none, .mov (.r 0)⟩,
    ⟨none, .mov (.r 2)⟩,
    ⟨none, .slc 17 (.l 1) none (some (.l 0)) none⟩,
    ⟨none, .mov (.l 0)⟩] [(1, 0)] []) (
  .ret))))) (
  .skip)))) (
  .reg false [⟨none, .mov (.r 2)⟩,
    ⟨none, .bin .add (.l 0) (.v (.c (.d (.int .i64 1))))⟩,
    ⟨none, .mov (.l 0)⟩] [(2, 0)] []))
/-- slices.Compact[[]vidimus/api.OID,vidimus/api.OID] -/
def fn314 : Fn := ⟨1, 10, [0, 2, 3, 4, 5, 8, 13, 25, 32, 44], [.r 1],
  .seq (.reg false [⟨none, .mov (.v (.c (.d (.nils))))⟩] [(1, 0)] []) (
  .seq (.seq (.reg false [⟨none, .mov (.r 0)⟩,
    ⟨none, .len (.l 0)⟩,
    ⟨none, .bin .lss (.l 0) (.v (.c (.d (.int .i64 2))))⟩] [(5, 0)] []) (
  .cond (.r 5) (
  .seq (.reg false [⟨none, .mov (.r 0)⟩,
    ⟨none, .mov (.l 0)⟩] [(1, 0)] []) (
  .ret)) (
  .skip))) (
  .seq (.seq (.reg false [⟨none, .mov (.v (.c (.d (.int .i64 1))))⟩] [(2, 0)] []) (
  .block 0 (
  .loop (some [0, 2]) fn314L1))) (
  .seq (.reg false [⟨none, .mov (.r 0)⟩,
    ⟨none, .mov (.l 0)⟩] [(1, 0)] []) (
  .ret))))⟩

/-- slices.Grow[[]vidimus/api.OID,vidimus/api.OID] -/
def fn325 : Fn := ⟨2, 5, [0, 1, 4, 6, 16], [.r 2],
  .seq (.reg false [⟨none, .mov (.v (.c (.d (.nils))))⟩] [(2, 0)] []) (
  .seq (.seq (.reg false [⟨none, .mov (.r 1)⟩,
    ⟨none, .bin .lss (.l 0) (.v (.c (.d (.int .i64 0))))⟩] [(3, 0)] []) (
  .cond (.r 3) (
  .bad) (
  .skip))) (
  .seq (.seq (.reg false [⟨none, .mov (.r 1)⟩,
    ⟨none, .mov (.r 0)⟩,
    ⟨none, .cap (.l 0)⟩,
    ⟨none, .mov (.r 0)⟩,
    ⟨none, .len (.l 0)⟩,
    ⟨none, .bin .sub (.l 2) (.l 0)⟩,
    ⟨none, .bin .sub (.l 5) (.l 0)⟩,
    ⟨none, .mov (.l 0)⟩] [(1, 0)] []) (
  .seq (.reg false [⟨none, .mov (.r 1)⟩,
    ⟨none, .bin .gtr (.l 0) (.v (.c (.d (.int .i64 0))))⟩] [(4, 0)] []) (
  .cond (.r 4) (
  .bad) (
  .skip)))) (
  .seq (.reg false [⟨none, .mov (.r 0)⟩,
    ⟨none, .mov (.l 0)⟩] [(2, 0)] []) (
  .ret))))⟩

def tabC : List (FuncId × Fn) := [(3, fn3),
  (5, fn5),
  (6, fn6),
  (11, fn11),
  (12, fn12),
  (13, fn13),
  (14, fn14),
  (16, fn16),
  (19, fn19),
  (29, fn29),
  (30, fn30),
  (33, fn33),
  (35, fn35),
  (36, fn36),
  (58, fn58),
  (65, fn65),
  (66, fn66),
  (67, fn67),
  (68, fn68),
  (69, fn69),
  (70, fn70),
  (72, fn72),
  (73, fn73),
  (74, fn74),
  (79, fn79),
  (84, fn84),
  (85, fn85),
  (86, fn86),
  (87, fn87),
  (91, fn91),
  (93, fn93),
  (95, fn95),
  (96, fn96),
  (98, fn98),
  (100, fn100),
  (101, fn101),
  (105, fn105),
  (107, fn107),
  (108, fn108),
  (109, fn109),
  (116, fn116),
  (214, fn214),
  (215, fn215),
  (216, fn216),
  (217, fn217),
  (218, fn218),
  (220, fn220),
  (221, fn221),
  (222, fn222),
  (223, fn223),
  (224, fn224),
  (225, fn225),
  (226, fn226),
  (227, fn227),
  (228, fn228),
  (229, fn229),
  (230, fn230),
  (231, fn231),
  (232, fn232),
  (233, fn233),
  (234, fn234),
  (235, fn235),
  (236, fn236),
  (237, fn237),
  (238, fn238),
  (246, fn246),
  (249, fn249),
  (250, fn250),
  (251, fn251),
  (252, fn252),
  (253, fn253),
  (254, fn254),
  (255, fn255),
  (256, fn256),
  (257, fn257),
  (258, fn258),
  (260, fn260),
  (262, fn262),
  (263, fn263),
  (264, fn264),
  (268, fn268),
  (269, fn269),
  (270, fn270),
  (279, fn279),
  (280, fn280),
  (281, fn281),
  (282, fn282),
  (283, fn283),
  (284, fn284),
  (285, fn285),
  (293, fn293),
  (295, fn295),
  (303, fn303),
  (312, fn312),
  (313, fn313),
  (314, fn314),
  (325, fn325)]
def fnsC (f : FuncId) : Option Fn := tabC.lookup f
/-- Functions that use a channel. -/
def tabCH : List (FuncId × Fn) := [(10, fn10), (15, fn15), (18, fn18)]
def fnsCH (f : FuncId) : Option Fn := tabCH.lookup f
end Mini
end Go.Proofs.YtmcgaakbkgdljaaGreatDoor
