/-
  RecordsSame: the code of the functions, in the abstract machine's form.
-/
import Derived.Test.YtjnghfhccjogeaaGreatDoorAFa
namespace Go.Proofs.YtjnghfhccjogeaaGreatDoor
namespace Mini
def fn165L0 : I := .seq (.seq (.reg true [⟨none, .mov (.r 5)⟩,
    ⟨none, .mov (.r 1)⟩,
    ⟨none, .bin .gtr (.l 1) (.l 0)⟩,
    ⟨none, .mov (.l 0)⟩,
    ⟨some (0, true), .mov (.r 3)⟩,
    ⟨some (1, true), .mov (.r 0)⟩,
    ⟨some (2, true), .mov (.r 5)⟩,
    ⟨some (3, true), .ixa 17 (.l 1) (.l 0)⟩,
    ⟨some (4, true), .ld true 17 (.l 0)⟩,
    ⟨some (5, true), .mov (.r 0)⟩,
    ⟨some (6, true), .mov (.r 5)⟩,
    ⟨some (7, true), .bin .sub (.l 0) (.v (.c (.d (.int .i64 1))))⟩,
    ⟨some (8, true), .ixa 17 (.l 2) (.l 0)⟩,
    ⟨some (9, true), .ld true 17 (.l 0)⟩,
    ⟨some (10, true), .hc (.l 9) [(.l 5), (.l 0)]⟩,
    ⟨some (11, true), .bin .lss (.l 0) (.v (.c (.d (.int .i64 0))))⟩,
    ⟨none, .pick (.l 12) (.l 0) (.v (.c (.d (.bool false))))⟩] [(7, 0)] []) (
  .cond (.r 7) (
  .skip) (
  .exit 2))) (
  .seq (.block 3 (
  .reg true [⟨none, .mov (.r 0)⟩,
    ⟨none, .mov (.r 5)⟩,
    ⟨none, .mov (.r 0)⟩,
    ⟨none, .mov (.r 5)⟩,
    ⟨none, .bin .sub (.l 0) (.v (.c (.d (.int .i64 1))))⟩,
    ⟨none, .mov (.r 0)⟩,
    ⟨none, .mov (.r 5)⟩,
    ⟨none, .bin .sub (.l 0) (.v (.c (.d (.int .i64 1))))⟩,
    ⟨none, .ixa 17 (.l 2) (.l 0)⟩,
    ⟨none, .ld true 17 (.l 0)⟩,
    ⟨none, .mov (.r 0)⟩,
    ⟨none, .mov (.r 5)⟩,
    ⟨none, .ixa 17 (.l 1) (.l 0)⟩,
    ⟨none, .ld true 17 (.l 0)⟩,
    ⟨none, .ixa 17 (.l 13) (.l 12)⟩,
    ⟨none, .st 17 (.l 0) (.l 5)⟩,
    ⟨none, .ixa 17 (.l 13) (.l 11)⟩,
    ⟨none, .st 17 (.l 0) (.l 3)⟩] [] [])) (
  .reg false [⟨none, .mov (.r 5)⟩,
    ⟨none, .bin .sub (.l 0) (.v (.c (.d (.int .i64 1))))⟩,
    ⟨none, .mov (.l 0)⟩] [(5, 0)] []))
def fn165L1 : I := .seq (.seq (.reg false [⟨none, .mov (.r 4)⟩,
    ⟨none, .mov (.r 2)⟩,
    ⟨none, .bin .lss (.l 1) (.l 0)⟩] [(6, 0)] []) (
  .cond (.r 6) (
  .skip) (
  .exit 0))) (
  .seq (.block 1 (
  .seq (.reg false [⟨none, .mov (.r 4)⟩,
    ⟨none, .mov (.l 0)⟩] [(5, 0)] []) (
  .block 2 (
  .loop (some [0, 1, 2, 3, 4, 5]) fn165L0)))) (
  .reg false [⟨none, .mov (.r 4)⟩,
    ⟨none, .bin .add (.l 0) (.v (.c (.d (.int .i64 1))))⟩,
    ⟨none, .mov (.l 0)⟩] [(4, 0)] []))
def fn165 : Fn := ⟨4, 8, [0, 1, 2, 3, 8, 9, 14, 34], [],
  .seq (.reg false [⟨none, .mov (.r 1)⟩,
    ⟨none, .bin .add (.l 0) (.v (.c (.d (.int .i64 1))))⟩,
    ⟨none, .mov (.l 0)⟩] [(4, 0)] []) (
  .block 0 (
  .loop (some [0, 1, 2, 3, 4]) fn165L1))⟩
def fn173 : Fn := ⟨1, 4, [0, 2, 4, 8], [.r 1],
  .seq (.reg false [⟨none, .mov (.v (.c (.d (.int .i64 0))))⟩] [(1, 0)] []) (
  .seq (.seq (.reg false [⟨none, .mov (.r 0)⟩,
    ⟨none, .bin .geq (.l 0) (.v (.c (.d (.int .u32 65536))))⟩] [(2, 0)] []) (
  .cond (.r 2) (
  .seq (.reg false [⟨none, .mov (.r 0)⟩,
    ⟨none, .bin .shr (.l 0) (.v (.c (.d (.int .u64 16))))⟩,
    ⟨none, .mov (.l 0)⟩] [(0, 0)] []) (
  .reg false [⟨none, .mov (.v (.c (.d (.int .i64 16))))⟩] [(1, 0)] [])) (
  .skip))) (
  .seq (.seq (.reg false [⟨none, .mov (.r 0)⟩,
    ⟨none, .bin .geq (.l 0) (.v (.c (.d (.int .u32 256))))⟩] [(3, 0)] []) (
  .cond (.r 3) (
  .seq (.reg false [⟨none, .mov (.r 0)⟩,
    ⟨none, .bin .shr (.l 0) (.v (.c (.d (.int .u64 8))))⟩,
    ⟨none, .mov (.l 0)⟩] [(0, 0)] []) (
  .reg false [⟨none, .mov (.r 1)⟩,
    ⟨none, .bin .add (.l 0) (.v (.c (.d (.int .i64 8))))⟩,
    ⟨none, .mov (.l 0)⟩] [(1, 0)] [])) (
  .skip))) (
  .seq (.reg false [⟨none, .mov (.r 1)⟩,
    ⟨none, .mov (.r 0)⟩,
    ⟨none, .cvi .u8 (.l 0)⟩,
    ⟨none, .ixs (.v (.c (.d (.str [0, 1, 2, 2, 3, 3, 3, 3, 4, 4, 4, 4, 4, 4, 4, 4, 5, 5, 5, 5, 5, 5, 5, 5, 5, 5, 5, 5, 5, 5, 5, 5, 6, 6, 6, 6, 6, 6, 6, 6, 6, 6, 6, 6, 6, 6, 6, 6, 6, 6, 6, 6, 6, 6, 6, 6, 6, 6, 6, 6, 6, 6, 6, 6, 7, 7, 7, 7, 7, 7, 7, 7, 7, 7, 7, 7, 7, 7, 7, 7, 7, 7, 7, 7, 7, 7, 7, 7, 7, 7, 7, 7, 7, 7, 7, 7, 7, 7, 7, 7, 7, 7, 7, 7, 7, 7, 7, 7, 7, 7, 7, 7, 7, 7, 7, 7, 7, 7, 7, 7, 7, 7, 7, 7, 7, 7, 7, 7, 8, 8, 8, 8, 8, 8, 8, 8, 8, 8, 8, 8, 8, 8, 8, 8, 8, 8, 8, 8, 8, 8, 8, 8, 8, 8, 8, 8, 8, 8, 8, 8, 8, 8, 8, 8, 8, 8, 8, 8, 8, 8, 8, 8, 8, 8, 8, 8, 8, 8, 8, 8, 8, 8, 8, 8, 8, 8, 8, 8, 8, 8, 8, 8, 8, 8, 8, 8, 8, 8, 8, 8, 8, 8, 8, 8, 8, 8, 8, 8, 8, 8, 8, 8, 8, 8, 8, 8, 8, 8, 8, 8, 8, 8, 8, 8, 8, 8, 8, 8, 8, 8, 8, 8, 8, 8, 8, 8, 8, 8, 8, 8, 8, 8, 8, 8, 8, 8, 8, 8, 8, 8, 8, 8, 8, 8, 8, 8])))) (.l 0)⟩,
    ⟨none, .cvi .i64 (.l 0)⟩,
    ⟨none, .bin .add (.l 4) (.l 0)⟩,
    ⟨none, .mov (.l 0)⟩] [(1, 0)] []) (
  .ret))))⟩
def fn174 : Fn := ⟨1, 5, [0, 2, 4, 8, 14], [.r 1],
  .seq (.reg false [⟨none, .mov (.v (.c (.d (.int .i64 0))))⟩] [(1, 0)] []) (
  .seq (.seq (.reg false [⟨none, .mov (.r 0)⟩,
    ⟨none, .bin .geq (.l 0) (.v (.c (.d (.int .u64 4294967296))))⟩] [(2, 0)] []) (
  .cond (.r 2) (
  .seq (.reg false [⟨none, .mov (.r 0)⟩,
    ⟨none, .bin .shr (.l 0) (.v (.c (.d (.int .u64 32))))⟩,
    ⟨none, .mov (.l 0)⟩] [(0, 0)] []) (
  .reg false [⟨none, .mov (.v (.c (.d (.int .i64 32))))⟩] [(1, 0)] [])) (
  .skip))) (
  .seq (.seq (.reg false [⟨none, .mov (.r 0)⟩,
    ⟨none, .bin .geq (.l 0) (.v (.c (.d (.int .u64 65536))))⟩] [(3, 0)] []) (
  .cond (.r 3) (
  .seq (.reg false [⟨none, .mov (.r 0)⟩,
    ⟨none, .bin .shr (.l 0) (.v (.c (.d (.int .u64 16))))⟩,
    ⟨none, .mov (.l 0)⟩] [(0, 0)] []) (
  .reg false [⟨none, .mov (.r 1)⟩,
    ⟨none, .bin .add (.l 0) (.v (.c (.d (.int .i64 16))))⟩,
    ⟨none, .mov (.l 0)⟩] [(1, 0)] [])) (
  .skip))) (
  .seq (.seq (.reg false [⟨none, .mov (.r 0)⟩,
    ⟨none, .bin .geq (.l 0) (.v (.c (.d (.int .u64 256))))⟩] [(4, 0)] []) (
  .cond (.r 4) (
  .seq (.reg false [⟨none, .mov (.r 0)⟩,
    ⟨none, .bin .shr (.l 0) (.v (.c (.d (.int .u64 8))))⟩,
    ⟨none, .mov (.l 0)⟩] [(0, 0)] []) (
  .reg false [⟨none, .mov (.r 1)⟩,
    ⟨none, .bin .add (.l 0) (.v (.c (.d (.int .i64 8))))⟩,
    ⟨none, .mov (.l 0)⟩] [(1, 0)] [])) (
  .skip))) (
  .seq (.reg false [⟨none, .mov (.r 1)⟩,
    ⟨none, .mov (.r 0)⟩,
    ⟨none, .cvi .u8 (.l 0)⟩,
    ⟨none, .ixs (.v (.c (.d (.str [0, 1, 2, 2, 3, 3, 3, 3, 4, 4, 4, 4, 4, 4, 4, 4, 5, 5, 5, 5, 5, 5, 5, 5, 5, 5, 5, 5, 5, 5, 5, 5, 6, 6, 6, 6, 6, 6, 6, 6, 6, 6, 6, 6, 6, 6, 6, 6, 6, 6, 6, 6, 6, 6, 6, 6, 6, 6, 6, 6, 6, 6, 6, 6, 7, 7, 7, 7, 7, 7, 7, 7, 7, 7, 7, 7, 7, 7, 7, 7, 7, 7, 7, 7, 7, 7, 7, 7, 7, 7, 7, 7, 7, 7, 7, 7, 7, 7, 7, 7, 7, 7, 7, 7, 7, 7, 7, 7, 7, 7, 7, 7, 7, 7, 7, 7, 7, 7, 7, 7, 7, 7, 7, 7, 7, 7, 7, 7, 8, 8, 8, 8, 8, 8, 8, 8, 8, 8, 8, 8, 8, 8, 8, 8, 8, 8, 8, 8, 8, 8, 8, 8, 8, 8, 8, 8, 8, 8, 8, 8, 8, 8, 8, 8, 8, 8, 8, 8, 8, 8, 8, 8, 8, 8, 8, 8, 8, 8, 8, 8, 8, 8, 8, 8, 8, 8, 8, 8, 8, 8, 8, 8, 8, 8, 8, 8, 8, 8, 8, 8, 8, 8, 8, 8, 8, 8, 8, 8, 8, 8, 8, 8, 8, 8, 8, 8, 8, 8, 8, 8, 8, 8, 8, 8, 8, 8, 8, 8, 8, 8, 8, 8, 8, 8, 8, 8, 8, 8, 8, 8, 8, 8, 8, 8, 8, 8, 8, 8, 8, 8, 8, 8, 8, 8, 8, 8])))) (.l 0)⟩,
    ⟨none, .cvi .i64 (.l 0)⟩,
    ⟨none, .bin .add (.l 4) (.l 0)⟩,
    ⟨none, .mov (.l 0)⟩] [(1, 0)] []) (
  .ret)))))⟩
def fn175 : Fn := ⟨2, 10, [0, 1, 4, 5, 6, 11, 12, 13, 16, 19], [.r 2],
  .seq (.reg false [⟨none, .mov (.v (.c (.d (.int .i64 0))))⟩] [(2, 0)] []) (
  .seq (.reg false [⟨none, .mov (.r 0)⟩,
    ⟨none, .vc 225 [(.l 0)]⟩,
    ⟨none, .mov (.l 0)⟩] [(3, 0)] []) (
  .seq (.reg false [⟨none, .mov (.r 1)⟩,
    ⟨none, .vc 225 [(.l 0)]⟩,
    ⟨none, .mov (.l 0)⟩] [(4, 0)] []) (
  .seq (.seq (.reg false [⟨none, .mov (.r 3)⟩] [(5, 0)] []) (
  .cond (.r 5) (
  .seq (.seq (.reg false [⟨none, .mov (.r 4)⟩] [(6, 0)] []) (
  .cond (.r 6) (
  .seq (.reg false [⟨none, .mov (.v (.c (.d (.int .i64 0))))⟩] [(2, 0)] []) (
  .ret)) (
  .skip))) (
  .seq (.reg false [⟨none, .mov (.v (.c (.d (.int .i64 (-1)))))⟩] [(2, 0)] []) (
  .ret))) (
  .skip))) (
  .seq (.seq (.reg false [⟨none, .mov (.r 4)⟩] [(7, 0)] []) (
  .cond (.r 7) (
  .seq (.reg false [⟨none, .mov (.v (.c (.d (.int .i64 1))))⟩] [(2, 0)] []) (
  .ret)) (
  .skip))) (
  .seq (.seq (.reg false [⟨none, .mov (.r 0)⟩,
    ⟨none, .mov (.r 1)⟩,
    ⟨none, .bin .lss (.l 1) (.l 0)⟩] [(8, 0)] []) (
  .cond (.r 8) (
  .seq (.reg false [⟨none, .mov (.v (.c (.d (.int .i64 (-1)))))⟩] [(2, 0)] []) (
  .ret)) (
  .skip))) (
  .seq (.seq (.reg false [⟨none, .mov (.r 0)⟩,
    ⟨none, .mov (.r 1)⟩,
    ⟨none, .bin .gtr (.l 1) (.l 0)⟩] [(9, 0)] []) (
  .cond (.r 9) (
  .seq (.reg false [⟨none, .mov (.v (.c (.d (.int .i64 1))))⟩] [(2, 0)] []) (
  .ret)) (
  .skip))) (
  .seq (.reg false [⟨none, .mov (.v (.c (.d (.int .i64 0))))⟩] [(2, 0)] []) (
  .ret))))))))⟩
def fn180 : Fn := ⟨2, 3, [0, 1, 4], [.r 2],
  .seq (.reg false [⟨none, .mov (.v (.c (.d (.bool false))))⟩] [(2, 0)] []) (
  .seq (.reg false [⟨none, .mov (.r 0)⟩,
    ⟨none, .mov (.r 1)⟩,
    ⟨none, .vc 233 [(.l 1), (.l 0)]⟩,
    ⟨none, .bin .geq (.l 0) (.v (.c (.d (.int .i64 0))))⟩,
    ⟨none, .mov (.l 0)⟩] [(2, 0)] []) (
  .ret))⟩
def fn181 : Fn := ⟨1, 2, [0, 2], [.r 1],
  .seq (.reg false [⟨none, .mov (.v (.c (.d (.bool false))))⟩] [(1, 0)] []) (
  .seq (.reg false [⟨none, .mov (.r 0)⟩,
    ⟨none, .vc 182 [(.l 0)]⟩,
    ⟨none, .un .not (.l 0)⟩,
    ⟨none, .mov (.l 0)⟩] [(1, 0)] []) (
  .ret))⟩
def fn182 : Fn := ⟨1, 2, [0, 2], [.r 1],
  .seq (.reg false [⟨none, .mov (.v (.c (.d (.bool false))))⟩] [(1, 0)] []) (
  .seq (.reg false [⟨none, .mov (.r 0)⟩,
    ⟨none, .bin .eql (.l 0) (.v (.c (.d (.str [48]))))⟩,
    ⟨none, .mov (.l 0)⟩,
    ⟨some (0, false), .mov (.r 0)⟩,
    ⟨some (1, false), .bin .neq (.l 0) (.v (.c (.d (.str []))))⟩,
    ⟨some (2, false), .mov (.l 0)⟩,
    ⟨some (0, true), .mov (.r 0)⟩,
    ⟨some (1, true), .ixs (.l 0) (.v (.c (.d (.int .i64 0))))⟩,
    ⟨some (2, true), .bin .neq (.l 0) (.v (.c (.d (.int .u8 48))))⟩,
    ⟨some (6, false), .pick (.l 3) (.l 0) (.v (.c (.d (.bool false))))⟩,
    ⟨some (7, false), .mov (.l 0)⟩,
    ⟨some (0, true), .mov (.r 0)⟩,
    ⟨some (1, true), .pc 234 [(.l 0), (.v (.c (.d (.str [48, 49, 50, 51, 52, 53, 54, 55, 56, 57]))))]⟩,
    ⟨some (2, true), .bin .eql (.l 0) (.v (.c (.d (.str []))))⟩,
    ⟨some (11, false), .pick (.l 3) (.l 0) (.v (.c (.d (.bool false))))⟩,
    ⟨none, .pick (.l 12) (.v (.c (.d (.bool true)))) (.l 0)⟩,
    ⟨none, .mov (.l 0)⟩] [(1, 0)] []) (
  .ret))⟩
def fn186L0 : I := .seq (.reg false [⟨none, .bin .lss (.r 15) (.r 14)⟩] [(16, 0)] []) (
  .seq (.cond (.r 16) (
  .skip) (
  .exit 1)) (
  .seq (.block 2 (
  .seq (.reg false [⟨none, .ixa 5 (.r 13) (.r 15)⟩,
    ⟨none, .ld true 5 (.l 0)⟩,
    ⟨none, .pre⟩,
    ⟨none, .ini 5 (.l 1)⟩] [(9, 0)] []) (
  .seq (.reg false [⟨none, .ld true 5 (.r 9)⟩,
    ⟨none, .mkf 240 [(.l 0)] []⟩,
    ⟨none, .mov (.l 0)⟩] [(10, 0)] []) (
  .block 3 (
  .seq (.reg false [⟨none, .mov (.r 7)⟩,
    ⟨none, .fa 4 (.r 3)⟩,
    ⟨none, .ld false 1 (.l 0)⟩,
    ⟨none, .len (.l 0)⟩,
    ⟨none, .bin .lss (.l 3) (.l 0)⟩,
    ⟨none, .mov (.l 0)⟩,
    ⟨some (0, true), .mov (.r 10)⟩,
    ⟨some (1, true), .fa 4 (.r 3)⟩,
    ⟨some (2, true), .ld false 1 (.l 0)⟩,
    ⟨some (3, true), .mov (.r 7)⟩,
    ⟨some (4, true), .ixa 5 (.l 1) (.l 0)⟩,
    ⟨some (5, true), .ld true 5 (.l 0)⟩,
    ⟨some (6, true), .hc (.l 5) [(.l 0)]⟩,
    ⟨none, .pick (.l 7) (.l 0) (.v (.c (.d (.bool false))))⟩,
    ⟨none, .mov (.l 0)⟩] [(17, 0)] []) (
  .cond (.r 17) (
  .seq (.reg false [⟨none, .mov (.r 8)⟩,
    ⟨none, .mov (.r 7)⟩,
    ⟨none, .bsl 1 1 [.int .i64 0] [(0, 1, (.l 0))]⟩,
    ⟨none, .app 1 (.l 2) (.l 0)⟩,
    ⟨none, .mov (.l 0)⟩] [(8, 0)] []) (
  .reg false [⟨none, .mov (.r 7)⟩,
    ⟨none, .bin .add (.l 0) (.v (.c (.d (.int .i64 1))))⟩,
    ⟨none, .mov (.l 0)⟩] [(7, 0)] [])) (
  .seq (.reg false [⟨none, .fa 4 (.r 9)⟩,
    ⟨none, .ld false 1 (.l 0)⟩,
    ⟨none, .mov (.l 0)⟩] [(18, 0)] []) (
  .cond (.r 18) (
  .reg false [⟨none, .mov (.r 8)⟩,
    ⟨none, .bsl 1 1 [.int .i64 0] [(0, 1, (.v (.c (.d (.int .i64 (-1))))))]⟩,
    ⟨none, .app 1 (.l 1) (.l 0)⟩,
    ⟨none, .mov (.l 0)⟩] [(8, 0)] []) (
  .seq (.reg false [⟨none, .mov (.r 7)⟩,
    ⟨none, .fa 4 (.r 3)⟩,
    ⟨none, .ld false 1 (.l 0)⟩,
    ⟨none, .len (.l 0)⟩,
    ⟨none, .bin .eql (.l 3) (.l 0)⟩,
    ⟨none, .mov (.l 0)⟩] [(19, 0)] []) (
  .cond (.r 19) (
  .seq (.reg false [⟨none, .vc 239 [(.v (.c (.d (.int .i64 7)))), (.v (.c (.d (.nils))))]⟩,
    ⟨none, .mov (.v (.c (.d (.nils))))⟩,
    ⟨none, .st 2 (.r 6) (.l 1)⟩] [(5, 1)] []) (
  .ret)) (
  .seq (.reg false [⟨none, .mov (.r 7)⟩,
    ⟨none, .bsl 1 1 [.int .i64 0] [(0, 1, (.l 0))]⟩,
    ⟨none, .vc 239 [(.v (.c (.d (.int .i64 9)))), (.l 0)]⟩,
    ⟨none, .mov (.v (.c (.d (.nils))))⟩,
    ⟨none, .st 2 (.r 6) (.l 1)⟩] [(5, 1)] []) (
  .ret)))))))))))) (
  .reg false [⟨none, .bin .add (.r 15) (.v (.c (.d (.int .i64 1))))⟩,
    ⟨none, .mov (.l 0)⟩] [(15, 0)] [])))
def fn186 : Fn := ⟨3, 21, [0, 1, 2, 3, 4, 6, 7, 8, 9, 11, 12, 13, 18, 27, 28, 29, 30, 38, 59, 65, 77], [.r 5, .cell 6 2 true],
  .seq (.reg false [⟨none, .box (.r 0)⟩,
    ⟨none, .box (.r 1)⟩,
    ⟨none, .mov (.v (.c (.d (.nils))))⟩,
    ⟨none, .new [.nils, .int .i64 0]⟩] [(3, 3), (4, 2), (5, 1), (6, 0)] []) (
  .seq (.block 0 (
  .seq (.reg false [⟨none, .mov (.r 2)⟩,
    ⟨none, .len (.l 0)⟩,
    ⟨none, .bin .gtr (.l 0) (.v (.c (.d (.int .i64 256))))⟩,
    ⟨none, .mov (.l 0)⟩] [(11, 0)] []) (
  .cond (.r 11) (
  .seq (.reg false [⟨none, .vc 239 [(.v (.c (.d (.int .i64 3)))), (.v (.c (.d (.nils))))]⟩,
    ⟨none, .mov (.v (.c (.d (.nils))))⟩,
    ⟨none, .st 2 (.r 6) (.l 1)⟩] [(5, 1)] []) (
  .ret)) (
  .seq (.reg false [⟨none, .fa 0 (.r 3)⟩,
    ⟨none, .ld true 3 (.l 0)⟩,
    ⟨none, .ld true 3 (.r 4)⟩,
    ⟨none, .eqk true [0, 1, 0] (.l 1) (.l 0)⟩,
    ⟨none, .mov (.l 0)⟩] [(12, 0)] []) (
  .cond (.r 12) (
  .seq (.reg false [⟨none, .vc 239 [(.v (.c (.d (.int .i64 9)))), (.v (.c (.d (.nils))))]⟩,
    ⟨none, .mov (.v (.c (.d (.nils))))⟩,
    ⟨none, .st 2 (.r 6) (.l 1)⟩] [(5, 1)] []) (
  .ret)) (
  .skip)))))) (
  .seq (.reg false [⟨none, .mov (.v (.c (.d (.int .i64 0))))⟩] [(7, 0)] []) (
  .seq (.reg false [⟨none, .mov (.r 2)⟩,
    ⟨none, .len (.l 0)⟩,
    ⟨none, .mks 1 8 [.int .i64 0] (.v (.c (.d (.int .i64 0)))) (.l 0)⟩,
    ⟨none, .mov (.l 0)⟩] [(8, 0)] []) (
  .seq (.seq (.reg false [⟨none, .mov (.r 2)⟩,
    ⟨none, .len (.l 0)⟩,
    ⟨none, .mov (.v (.c (.d (.int .i64 0))))⟩] [(13, 2), (14, 1), (15, 0)] []) (
  .block 1 (
  .seq (.fresh 8 none 1) (
  .loop (some [3, 6, 7, 8, 13, 14, 15]) fn186L0)))) (
  .seq (.seq (.reg false [⟨none, .mov (.r 7)⟩,
    ⟨none, .fa 4 (.r 3)⟩,
    ⟨none, .ld false 1 (.l 0)⟩,
    ⟨none, .len (.l 0)⟩,
    ⟨none, .bin .lss (.l 3) (.l 0)⟩] [(20, 0)] []) (
  .cond (.r 20) (
  .seq (.reg false [⟨none, .mov (.r 7)⟩,
    ⟨none, .bsl 1 1 [.int .i64 0] [(0, 1, (.l 0))]⟩,
    ⟨none, .vc 239 [(.v (.c (.d (.int .i64 8)))), (.l 0)]⟩,
    ⟨none, .mov (.v (.c (.d (.nils))))⟩,
    ⟨none, .st 2 (.r 6) (.l 1)⟩] [(5, 1)] []) (
  .ret)) (
  .skip))) (
  .seq (.reg false [⟨none, .mov (.r 8)⟩,
    ⟨none, .bld [.nils, .int .i64 0] []⟩,
    ⟨none, .mov (.l 1)⟩,
    ⟨none, .st 2 (.r 6) (.l 1)⟩] [(5, 1)] []) (
  .ret)))))))⟩
def fn187L0 : I := .seq (.reg false [⟨none, .bin .lss (.r 10) (.r 9)⟩] [(11, 0)] []) (
  .seq (.cond (.r 11) (
  .skip) (
  .exit 0)) (
  .seq (.block 1 (
  .seq (.reg false [⟨none, .ixa 1 (.r 8) (.r 10)⟩,
    ⟨none, .ld false 1 (.l 0)⟩,
    ⟨none, .mov (.l 0)⟩] [(6, 0)] []) (
  .seq (.block 2 (
  .seq (.reg false [⟨none, .mov (.r 5)⟩,
    ⟨none, .mov (.l 0)⟩,
    ⟨some (0, true), .fa 0 (.r 3)⟩,
    ⟨some (1, true), .ld false 1 (.l 0)⟩,
    ⟨some (2, true), .bin .eql (.l 0) (.v (.c (.d (.int .u8 16))))⟩,
    ⟨none, .pick (.l 3) (.l 0) (.v (.c (.d (.bool false))))⟩,
    ⟨none, .mov (.l 0)⟩] [(12, 0)] []) (
  .cond (.r 12) (
  .seq (.reg false [⟨none, .bld [.int .u8 0, .int .u32 0, .int .u32 0, .int .u32 0, .int .u32 0, .int .u32 0, .int .u32 0, .int .u32 0, .int .u32 0, .int .u32 0, .int .u32 0, .int .u32 0, .int .u32 0, .int .u32 0, .int .u32 0, .int .u32 0, .int .u32 0] []⟩,
    ⟨none, .st 17 (.r 1) (.l 0)⟩,
    ⟨none, .mov (.v (.c (.d (.int .i64 3))))⟩] [(2, 0)] []) (
  .ret)) (
  .seq (.reg false [⟨none, .mov (.r 5)⟩,
    ⟨none, .mov (.l 0)⟩,
    ⟨some (0, true), .mov (.r 6)⟩,
    ⟨some (1, true), .bin .eql (.l 0) (.v (.c (.d (.int .u8 128))))⟩,
    ⟨none, .pick (.l 2) (.l 0) (.v (.c (.d (.bool false))))⟩,
    ⟨none, .mov (.l 0)⟩] [(13, 0)] []) (
  .cond (.r 13) (
  .seq (.reg false [⟨none, .bld [.int .u8 0, .int .u32 0, .int .u32 0, .int .u32 0, .int .u32 0, .int .u32 0, .int .u32 0, .int .u32 0, .int .u32 0, .int .u32 0, .int .u32 0, .int .u32 0, .int .u32 0, .int .u32 0, .int .u32 0, .int .u32 0, .int .u32 0] []⟩,
    ⟨none, .st 17 (.r 1) (.l 0)⟩,
    ⟨none, .mov (.v (.c (.d (.int .i64 11))))⟩] [(2, 0)] []) (
  .ret)) (
  .skip)))))) (
  .seq (.reg false [⟨none, .mov (.r 4)⟩,
    ⟨none, .bin .shl (.l 0) (.v (.c (.d (.int .u64 7))))⟩,
    ⟨none, .mov (.r 6)⟩,
    ⟨none, .bin .and (.l 0) (.v (.c (.d (.int .u8 127))))⟩,
    ⟨none, .cvi .u64 (.l 0)⟩,
    ⟨none, .bin .or (.l 3) (.l 0)⟩,
    ⟨none, .mov (.l 0)⟩] [(4, 0)] []) (
  .seq (.seq (.reg false [⟨none, .mov (.r 4)⟩,
    ⟨none, .bin .gtr (.l 0) (.v (.c (.d (.int .u64 4294967295))))⟩] [(14, 0)] []) (
  .cond (.r 14) (
  .seq (.reg false [⟨none, .bld [.int .u8 0, .int .u32 0, .int .u32 0, .int .u32 0, .int .u32 0, .int .u32 0, .int .u32 0, .int .u32 0, .int .u32 0, .int .u32 0, .int .u32 0, .int .u32 0, .int .u32 0, .int .u32 0, .int .u32 0, .int .u32 0, .int .u32 0] []⟩,
    ⟨none, .st 17 (.r 1) (.l 0)⟩,
    ⟨none, .mov (.v (.c (.d (.int .i64 3))))⟩] [(2, 0)] []) (
  .ret)) (
  .skip))) (
  .seq (.reg false [⟨none, .mov (.r 6)⟩,
    ⟨none, .bin .lss (.l 0) (.v (.c (.d (.int .u8 128))))⟩,
    ⟨none, .mov (.l 0)⟩] [(5, 0)] []) (
  .seq (.reg false [⟨none, .mov (.r 5)⟩] [(15, 0)] []) (
  .cond (.r 15) (
  .seq (.reg false [⟨none, .fa 0 (.r 3)⟩,
    ⟨none, .ld false 1 (.l 0)⟩,
    ⟨none, .mov (.r 4)⟩,
    ⟨none, .cvi .u32 (.l 0)⟩,
    ⟨none, .fa 1 (.r 3)⟩,
    ⟨none, .ixp 16 1 (.l 0) (.l 3)⟩,
    ⟨none, .st 1 (.l 0) (.l 2)⟩] [] []) (
  .seq (.reg false [⟨none, .fa 0 (.r 3)⟩,
    ⟨none, .ld false 1 (.l 0)⟩,
    ⟨none, .bin .add (.l 0) (.v (.c (.d (.int .u8 1))))⟩,
    ⟨none, .fa 0 (.r 3)⟩,
    ⟨none, .st 1 (.l 0) (.l 1)⟩] [] []) (
  .reg false [⟨none, .mov (.v (.c (.d (.int .u64 0))))⟩] [(4, 0)] []))) (
  .skip))))))))) (
  .reg false [⟨none, .bin .add (.r 10) (.v (.c (.d (.int .i64 1))))⟩,
    ⟨none, .mov (.l 0)⟩] [(10, 0)] [])))
def fn187 : Fn := ⟨1, 17, [0, 2, 3, 4, 5, 6, 8, 11, 14, 15, 16, 17, 20, 28, 42, 46, 59], [.cell 1 17 true, .r 2],
  .seq (.reg false [⟨none, .new [.int .u8 0, .int .u32 0, .int .u32 0, .int .u32 0, .int .u32 0, .int .u32 0, .int .u32 0, .int .u32 0, .int .u32 0, .int .u32 0, .int .u32 0, .int .u32 0, .int .u32 0, .int .u32 0, .int .u32 0, .int .u32 0, .int .u32 0]⟩,
    ⟨none, .mov (.v (.c (.d (.int .i64 0))))⟩] [(1, 1), (2, 0)] []) (
  .seq (.seq (.reg false [⟨none, .mov (.r 0)⟩,
    ⟨none, .len (.l 0)⟩,
    ⟨none, .bin .eql (.l 0) (.v (.c (.d (.int .i64 0))))⟩] [(7, 0)] []) (
  .cond (.r 7) (
  .seq (.reg false [⟨none, .bld [.int .u8 0, .int .u32 0, .int .u32 0, .int .u32 0, .int .u32 0, .int .u32 0, .int .u32 0, .int .u32 0, .int .u32 0, .int .u32 0, .int .u32 0, .int .u32 0, .int .u32 0, .int .u32 0, .int .u32 0, .int .u32 0, .int .u32 0] []⟩,
    ⟨none, .st 17 (.r 1) (.l 0)⟩,
    ⟨none, .mov (.v (.c (.d (.int .i64 7))))⟩] [(2, 0)] []) (
  .ret)) (
  .skip))) (
  .seq (.reg false [⟨none, .bld [.int .u8 0, .int .u32 0, .int .u32 0, .int .u32 0, .int .u32 0, .int .u32 0, .int .u32 0, .int .u32 0, .int .u32 0, .int .u32 0, .int .u32 0, .int .u32 0, .int .u32 0, .int .u32 0, .int .u32 0, .int .u32 0, .int .u32 0] [(0, 1, (.v (.c (.d (.int .u8 1)))))]⟩,
    ⟨none, .pre⟩,
    ⟨none, .ini 17 (.l 1)⟩] [(3, 0)] []) (
  .seq (.reg false [⟨none, .mov (.v (.c (.d (.int .u64 0))))⟩] [(4, 0)] []) (
  .seq (.reg false [⟨none, .mov (.v (.c (.d (.bool true))))⟩] [(5, 0)] []) (
  .seq (.seq (.reg false [⟨none, .mov (.r 0)⟩,
    ⟨none, .len (.l 0)⟩,
    ⟨none, .mov (.v (.c (.d (.int .i64 0))))⟩] [(8, 2), (9, 1), (10, 0)] []) (
  .block 0 (
  .loop (some [1, 3, 4, 5, 8, 9, 10]) fn187L0))) (
  .seq (.seq (.reg false [⟨none, .mov (.r 5)⟩,
    ⟨none, .un .not (.l 0)⟩] [(16, 0)] []) (
  .cond (.r 16) (
  .seq (.reg false [⟨none, .bld [.int .u8 0, .int .u32 0, .int .u32 0, .int .u32 0, .int .u32 0, .int .u32 0, .int .u32 0, .int .u32 0, .int .u32 0, .int .u32 0, .int .u32 0, .int .u32 0, .int .u32 0, .int .u32 0, .int .u32 0, .int .u32 0, .int .u32 0] []⟩,
    ⟨none, .st 17 (.r 1) (.l 0)⟩,
    ⟨none, .mov (.v (.c (.d (.int .i64 7))))⟩] [(2, 0)] []) (
  .ret)) (
  .skip))) (
  .seq (.reg false [⟨none, .fa 1 (.r 3)⟩,
    ⟨none, .ixp 16 1 (.l 0) (.v (.c (.d (.int .i64 1))))⟩,
    ⟨none, .ld false 1 (.l 0)⟩,
    ⟨none, .bin .quo (.l 0) (.v (.c (.d (.int .u32 40))))⟩,
    ⟨none, .mm false (.l 0) (.v (.c (.d (.int .u32 2))))⟩,
    ⟨none, .fa 1 (.r 3)⟩,
    ⟨none, .ixp 16 1 (.l 0) (.v (.c (.d (.int .i64 0))))⟩,
    ⟨none, .st 1 (.l 0) (.l 2)⟩] [] []) (
  .seq (.reg false [⟨none, .fa 1 (.r 3)⟩,
    ⟨none, .ixp 16 1 (.l 0) (.v (.c (.d (.int .i64 1))))⟩,
    ⟨none, .ld false 1 (.l 0)⟩,
    ⟨none, .fa 1 (.r 3)⟩,
    ⟨none, .ixp 16 1 (.l 0) (.v (.c (.d (.int .i64 0))))⟩,
    ⟨none, .ld false 1 (.l 0)⟩,
    ⟨none, .bin .mul (.v (.c (.d (.int .u32 40)))) (.l 0)⟩,
    ⟨none, .bin .sub (.l 4) (.l 0)⟩,
    ⟨none, .fa 1 (.r 3)⟩,
    ⟨none, .ixp 16 1 (.l 0) (.v (.c (.d (.int .i64 1))))⟩,
    ⟨none, .st 1 (.l 0) (.l 2)⟩] [] []) (
  .seq (.reg false [⟨none, .ld true 17 (.r 3)⟩,
    ⟨none, .st 17 (.r 1) (.l 0)⟩,
    ⟨none, .mov (.v (.c (.d (.int .i64 0))))⟩] [(2, 0)] []) (
  .ret))))))))))⟩
def fn188 : Fn := ⟨2, 6, [0, 1, 3, 4, 5, 8], [.cell 3 2 true],
  .seq (.reg false [⟨none, .box (.r 1)⟩,
    ⟨none, .new [.nils, .int .i64 0]⟩] [(2, 1), (3, 0)] []) (
  .seq (.seq (.reg false [⟨none, .fa 1 (.r 2)⟩,
    ⟨none, .ld false 1 (.l 0)⟩,
    ⟨none, .bin .eql (.l 0) (.v (.c (.d (.int .i64 0))))⟩] [(5, 0)] []) (
  .cond (.r 5) (
  .seq (.reg false [⟨none, .bld [.nils, .int .i64 0] []⟩,
    ⟨none, .st 2 (.r 3) (.l 0)⟩] [] []) (
  .ret)) (
  .skip))) (
  .seq (.reg false [⟨none, .fa 0 (.r 2)⟩,
    ⟨none, .ld false 1 (.l 0)⟩,
    ⟨none, .len (.l 0)⟩,
    ⟨none, .bin .add (.v (.c (.d (.int .i64 1)))) (.l 0)⟩,
    ⟨none, .mks 1 8 [.int .i64 0] (.l 0) (.l 0)⟩,
    ⟨none, .mov (.l 0)⟩] [(4, 0)] []) (
  .seq (.reg false [⟨none, .mov (.r 4)⟩,
    ⟨none, .mov (.r 0)⟩,
    ⟨none, .ixa 1 (.l 1) (.v (.c (.d (.int .i64 0))))⟩,
    ⟨none, .st 1 (.l 0) (.l 1)⟩] [] []) (
  .seq (.reg true [⟨none, .mov (.r 4)⟩,
    ⟨none, .slc 1 (.l 0) (some (.v (.c (.d (.int .i64 1))))) none none⟩,
    ⟨none, .fa 0 (.r 2)⟩,
    ⟨none, .ld false 1 (.l 0)⟩,
    ⟨none, .cpy 1 (.l 2) (.l 0)⟩] [] []) (
  .seq (.reg false [⟨none, .mov (.r 4)⟩,
    ⟨none, .fa 1 (.r 2)⟩,
    ⟨none, .ld false 1 (.l 0)⟩,
    ⟨none, .bld [.nils, .int .i64 0] [(0, 1, (.l 2)), (1, 1, (.l 0))]⟩,
    ⟨none, .st 2 (.r 3) (.l 0)⟩] [] []) (
  .ret))))))⟩
def fn189 : Fn := ⟨2, 8, [0, 1, 3, 4, 5, 6, 10, 26], [.r 3],
  .seq (.reg false [⟨none, .box (.r 1)⟩,
    ⟨none, .mov (.v (.c (.d (.str []))))⟩] [(2, 1), (3, 0)] []) (
  .seq (.seq (.reg false [⟨none, .fa 0 (.r 2)⟩,
    ⟨none, .ld true 3 (.l 0)⟩,
    ⟨none, .ld true 3 (.g 2)⟩,
    ⟨none, .eqk true [0, 1, 0] (.l 1) (.l 0)⟩] [(6, 0)] []) (
  .cond (.r 6) (
  .seq (.reg false [⟨none, .mov (.r 0)⟩,
    ⟨none, .bsl 1 1 [.int .i64 0] [(0, 1, (.v (.c (.d (.int .i64 1)))))]⟩,
    ⟨none, .vc 241 [(.l 1), (.v (.c (.d (.int .i64 9)))), (.l 0)]⟩] [] []) (
  .seq (.reg false [⟨none, .mov (.v (.c (.d (.str []))))⟩] [(3, 0)] []) (
  .ret))) (
  .skip))) (
  .seq (.reg false [⟨none, .ld true 5 (.r 2)⟩,
    ⟨none, .vc 242 [(.l 0)]⟩,
    ⟨none, .mov (.l 0)⟩,
    ⟨none, .ext (.l 0) 0⟩,
    ⟨none, .ext (.l 1) 1⟩,
    ⟨none, .pre⟩,
    ⟨none, .ini 2 (.l 2)⟩,
    ⟨none, .mov (.l 2)⟩] [(4, 1), (5, 0)] []) (
  .seq (.seq (.reg false [⟨none, .mov (.r 5)⟩,
    ⟨none, .bin .eql (.l 0) (.v (.c (.d (.int .i64 0))))⟩,
    ⟨none, .mov (.l 0)⟩,
    ⟨some (0, true), .fa 3 (.r 2)⟩,
    ⟨some (1, true), .ld false 1 (.l 0)⟩,
    ⟨some (2, true), .len (.l 0)⟩,
    ⟨some (3, true), .bin .gtr (.l 0) (.v (.c (.d (.int .i64 1024))))⟩,
    ⟨none, .pick (.l 4) (.l 0) (.v (.c (.d (.bool false))))⟩] [(7, 0)] []) (
  .cond (.r 7) (
  .reg false [⟨none, .mov (.v (.c (.d (.int .i64 3))))⟩] [(5, 0)] []) (
  .skip))) (
  .seq (.reg false [⟨none, .mov (.r 0)⟩,
    ⟨none, .mov (.r 5)⟩,
    ⟨none, .bsl 1 1 [.int .i64 0] [(0, 1, (.v (.c (.d (.int .i64 1)))))]⟩,
    ⟨none, .vc 241 [(.l 2), (.l 1), (.l 0)]⟩] [] []) (
  .seq (.reg false [⟨none, .fa 1 (.r 4)⟩,
    ⟨none, .ld false 1 (.l 0)⟩,
    ⟨none, .mov (.l 0)⟩] [(3, 0)] []) (
  .ret))))))⟩
def fn190 : Fn := ⟨3, 9, [0, 1, 2, 4, 6, 7, 21, 25, 39], [],
  .seq (.reg false [⟨none, .box (.r 1)⟩] [(3, 0)] []) (
  .seq (.reg false [⟨none, .ld true 5 (.r 3)⟩,
    ⟨none, .ld true 3 (.g 0)⟩,
    ⟨none, .ld true 3 (.g 0)⟩,
    ⟨none, .bld [.int .u8 0, .bool false, .int .u32 0, .bool false, .bool false] [(0, 3, (.l 0)), (4, 1, (.v (.c (.d (.bool true)))))]⟩,
    ⟨none, .bld [.int .u8 0, .bool false, .int .u32 0, .bool false, .bool false] [(3, 1, (.v (.c (.d (.bool true))))), (4, 1, (.v (.c (.d (.bool true)))))]⟩,
    ⟨none, .bsl 2 5 [.int .u8 0, .bool false, .int .u32 0, .bool false, .bool false] [(0, 5, (.l 1)), (5, 5, (.l 0))]⟩,
    ⟨none, .vc 186 [(.l 5), (.l 4), (.l 0)]⟩,
    ⟨none, .mov (.l 0)⟩,
    ⟨none, .ext (.l 0) 0⟩,
    ⟨none, .ext (.l 1) 1⟩,
    ⟨none, .pre⟩,
    ⟨none, .mov (.l 2)⟩,
    ⟨none, .ini 2 (.l 2)⟩] [(4, 1), (5, 0)] []) (
  .seq (.seq (.reg false [⟨none, .mov (.r 0)⟩,
    ⟨none, .ld true 2 (.r 5)⟩,
    ⟨none, .bsl 1 1 [.int .i64 0] [(0, 1, (.v (.c (.d (.int .i64 1)))))]⟩,
    ⟨none, .vc 243 [(.l 2), (.l 1), (.l 0)]⟩] [(6, 0)] []) (
  .cond (.r 6) (
  .ret) (
  .skip))) (
  .seq (.seq (.reg false [⟨none, .mov (.r 4)⟩,
    ⟨none, .ixa 1 (.l 0) (.v (.c (.d (.int .i64 0))))⟩,
    ⟨none, .ld false 1 (.l 0)⟩,
    ⟨none, .bin .geq (.l 0) (.v (.c (.d (.int .i64 0))))⟩] [(7, 0)] []) (
  .cond (.r 7) (
  .reg true [⟨none, .mov (.r 0)⟩,
    ⟨none, .fa 4 (.r 3)⟩,
    ⟨none, .ld false 1 (.l 0)⟩,
    ⟨none, .mov (.r 4)⟩,
    ⟨none, .ixa 1 (.l 0) (.v (.c (.d (.int .i64 0))))⟩,
    ⟨none, .ld false 1 (.l 0)⟩,
    ⟨none, .ixa 5 (.l 3) (.l 0)⟩,
    ⟨none, .ld true 5 (.l 0)⟩,
    ⟨none, .mov (.r 2)⟩,
    ⟨none, .vc 244 [(.l 8), (.l 1), (.l 0)]⟩] [] []) (
  .skip))) (
  .seq (.reg false [⟨none, .mov (.r 4)⟩,
    ⟨none, .ixa 1 (.l 0) (.v (.c (.d (.int .i64 1))))⟩,
    ⟨none, .ld false 1 (.l 0)⟩,
    ⟨none, .bin .geq (.l 0) (.v (.c (.d (.int .i64 0))))⟩] [(8, 0)] []) (
  .cond (.r 8) (
  .reg true [⟨none, .mov (.r 2)⟩,
    ⟨none, .mov (.r 2)⟩,
    ⟨none, .mov (.r 0)⟩,
    ⟨none, .fa 4 (.r 3)⟩,
    ⟨none, .ld false 1 (.l 0)⟩,
    ⟨none, .mov (.r 4)⟩,
    ⟨none, .ixa 1 (.l 0) (.v (.c (.d (.int .i64 1))))⟩,
    ⟨none, .ld false 1 (.l 0)⟩,
    ⟨none, .ixa 5 (.l 3) (.l 0)⟩,
    ⟨none, .ld true 5 (.l 0)⟩,
    ⟨none, .mov (.r 4)⟩,
    ⟨none, .ixa 1 (.l 0) (.v (.c (.d (.int .i64 1))))⟩,
    ⟨none, .ld false 1 (.l 0)⟩,
    ⟨none, .bsl 2 1 [.int .i64 0] [(0, 1, (.v (.c (.d (.int .i64 1))))), (1, 1, (.l 0))]⟩,
    ⟨none, .vc 245 [(.l 11), (.l 4), (.l 0)]⟩,
    ⟨none, .nlc (.l 14)⟩,
    ⟨none, .fa 6 (.l 0)⟩,
    ⟨none, .st 1 (.l 0) (.v (.c (.d (.bool true))))⟩,
    ⟨none, .nlc (.l 16)⟩,
    ⟨none, .fa 7 (.l 0)⟩,
    ⟨none, .st 2 (.l 0) (.l 5)⟩] [] []) (
  .skip))))))⟩
def fn191 : Fn := ⟨1, 6, [0, 2, 3, 4, 5, 12], [.r 1, .r 2],
  .seq (.reg false [⟨none, .mov (.v (.c (.d (.int .i64 0))))⟩,
    ⟨none, .mov (.v (.c (.d (.nili))))⟩] [(1, 1), (2, 0)] []) (
  .seq (.reg false [⟨none, .mov (.r 0)⟩,
    ⟨none, .vc 246 [(.l 0)]⟩,
    ⟨none, .mov (.l 0)⟩,
    ⟨none, .ext (.l 0) 0⟩,
    ⟨none, .ext (.l 1) 1⟩,
    ⟨none, .mov (.l 1)⟩,
    ⟨none, .mov (.l 1)⟩] [(3, 1), (4, 0)] []) (
  .seq (.seq (.reg false [⟨none, .mov (.r 4)⟩,
    ⟨none, .isn true (.l 0)⟩] [(5, 0)] []) (
  .cond (.r 5) (
  .seq (.reg false [⟨none, .mov (.r 3)⟩,
    ⟨none, .mov (.r 0)⟩,
    ⟨none, .mov (.r 4)⟩,
    ⟨none, .vc 236 [(.v (.c (.d (.str [65, 116, 111, 105])))), (.l 1), (.v (.c (.d (.int .i64 0)))), (.v (.c (.d (.int .i64 0)))), (.l 0)]⟩,
    ⟨none, .mov (.l 3)⟩,
    ⟨none, .mov (.l 1)⟩] [(1, 1), (2, 0)] []) (
  .ret)) (
  .skip))) (
  .seq (.reg false [⟨none, .mov (.r 3)⟩,
    ⟨none, .mov (.l 0)⟩,
    ⟨none, .mov (.v (.c (.d (.nili))))⟩] [(1, 1), (2, 0)] []) (
  .ret))))⟩
def fn195L0 : I := .seq (.seq (.reg true [⟨none, .mov (.r 0)⟩,
    ⟨none, .lns (.l 0)⟩,
    ⟨none, .bin .gtr (.l 0) (.v (.c (.d (.int .i64 32))))⟩,
    ⟨none, .mov (.l 0)⟩,
    ⟨some (0, true), .mov (.r 0)⟩,
    ⟨some (1, true), .vc 249 [(.l 0)]⟩,
    ⟨some (2, true), .mov (.r 0)⟩,
    ⟨some (3, true), .sls (.l 0) (some (.v (.c (.d (.int .i64 8))))) none⟩,
    ⟨some (4, true), .vc 249 [(.l 0)]⟩,
    ⟨some (5, true), .bin .or (.l 3) (.l 0)⟩,
    ⟨some (6, true), .mov (.r 0)⟩,
    ⟨some (7, true), .sls (.l 0) (some (.v (.c (.d (.int .i64 16))))) none⟩,
    ⟨some (8, true), .vc 249 [(.l 0)]⟩,
    ⟨some (9, true), .mov (.r 0)⟩,
    ⟨some (10, true), .sls (.l 0) (some (.v (.c (.d (.int .i64 24))))) none⟩,
    ⟨some (11, true), .vc 249 [(.l 0)]⟩,
    ⟨some (12, true), .bin .or (.l 3) (.l 0)⟩,
    ⟨some (13, true), .bin .or (.l 7) (.l 0)⟩,
    ⟨some (14, true), .bin .and (.l 0) (.v (.c (.d (.int .u64 9259542123273814144))))⟩,
    ⟨some (15, true), .bin .eql (.l 0) (.v (.c (.d (.int .u64 0))))⟩,
    ⟨none, .pick (.l 16) (.l 0) (.v (.c (.d (.bool false))))⟩] [(10, 0)] []) (
  .cond (.r 10) (
  .skip) (
  .exit 2))) (
  .block 3 (
  .reg false [⟨none, .mov (.r 0)⟩,
    ⟨none, .sls (.l 0) (some (.v (.c (.d (.int .i64 32))))) none⟩,
    ⟨none, .mov (.l 0)⟩] [(0, 0)] []))
def fn195L1 : I := .seq (.seq (.reg false [⟨none, .mov (.r 0)⟩,
    ⟨none, .lns (.l 0)⟩,
    ⟨none, .bin .gtr (.l 0) (.v (.c (.d (.int .i64 0))))⟩] [(6, 0)] []) (
  .cond (.r 6) (
  .skip) (
  .exit 0))) (
  .block 1 (
  .seq (.reg false [⟨none, .mov (.r 0)⟩,
    ⟨none, .ixs (.l 0) (.v (.c (.d (.int .i64 0))))⟩,
    ⟨none, .mov (.l 0)⟩] [(2, 0)] []) (
  .seq (.seq (.reg false [⟨none, .mov (.r 2)⟩,
    ⟨none, .bin .lss (.l 0) (.v (.c (.d (.int .u8 128))))⟩] [(7, 0)] []) (
  .cond (.r 7) (
  .seq (.reg false [⟨none, .mov (.r 0)⟩,
    ⟨none, .sls (.l 0) (some (.v (.c (.d (.int .i64 1))))) none⟩,
    ⟨none, .mov (.l 0)⟩] [(0, 0)] []) (
  .seq (.seq (.reg false [⟨none, .mov (.r 0)⟩,
    ⟨none, .lns (.l 0)⟩,
    ⟨none, .bin .gtr (.l 0) (.v (.c (.d (.int .i64 8))))⟩,
    ⟨none, .mov (.l 0)⟩,
    ⟨some (0, true), .mov (.r 0)⟩,
    ⟨some (1, true), .vc 249 [(.l 0)]⟩,
    ⟨some (2, true), .bin .and (.l 0) (.v (.c (.d (.int .u64 9259542123273814144))))⟩,
    ⟨some (3, true), .bin .eql (.l 0) (.v (.c (.d (.int .u64 0))))⟩,
    ⟨none, .pick (.l 4) (.l 0) (.v (.c (.d (.bool false))))⟩] [(8, 0)] []) (
  .cond (.r 8) (
  .seq (.reg false [⟨none, .mov (.r 0)⟩,
    ⟨none, .sls (.l 0) (some (.v (.c (.d (.int .i64 8))))) none⟩,
    ⟨none, .mov (.l 0)⟩] [(0, 0)] []) (
  .seq (.reg true [⟨none, .mov (.r 0)⟩,
    ⟨none, .lns (.l 0)⟩,
    ⟨none, .bin .gtr (.l 0) (.v (.c (.d (.int .i64 16))))⟩,
    ⟨none, .mov (.l 0)⟩,
    ⟨some (0, true), .mov (.r 0)⟩,
    ⟨some (1, true), .vc 249 [(.l 0)]⟩,
    ⟨some (2, true), .mov (.r 0)⟩,
    ⟨some (3, true), .sls (.l 0) (some (.v (.c (.d (.int .i64 8))))) none⟩,
    ⟨some (4, true), .vc 249 [(.l 0)]⟩,
    ⟨some (5, true), .bin .or (.l 3) (.l 0)⟩,
    ⟨some (6, true), .bin .and (.l 0) (.v (.c (.d (.int .u64 9259542123273814144))))⟩,
    ⟨some (7, true), .bin .eql (.l 0) (.v (.c (.d (.int .u64 0))))⟩,
    ⟨none, .pick (.l 8) (.l 0) (.v (.c (.d (.bool false))))⟩] [(9, 0)] []) (
  .cond (.r 9) (
  .seq (.reg false [⟨none, .mov (.r 0)⟩,
    ⟨none, .sls (.l 0) (some (.v (.c (.d (.int .i64 16))))) none⟩,
    ⟨none, .mov (.l 0)⟩] [(0, 0)] []) (
  .block 2 (
  .loop (some [0]) fn195L0))) (
  .skip)))) (
  .skip))) (
  .exit 1))) (
  .skip))) (
  .seq (.reg false [⟨none, .mov (.r 2)⟩,
    ⟨none, .ixp 256 1 (.g 4) (.l 0)⟩,
    ⟨none, .ld false 1 (.l 0)⟩,
    ⟨none, .mov (.l 0)⟩] [(3, 0)] []) (
  .seq (.reg false [⟨none, .mov (.r 3)⟩,
    ⟨none, .bin .and (.l 0) (.v (.c (.d (.int .u8 7))))⟩,
    ⟨none, .cvi .i64 (.l 0)⟩,
    ⟨none, .mov (.l 0)⟩] [(4, 0)] []) (
  .seq (.reg false [⟨none, .mov (.r 3)⟩,
    ⟨none, .bin .shr (.l 0) (.v (.c (.d (.int .u64 4))))⟩,
    ⟨none, .ixp 16 2 (.g 5) (.l 0)⟩,
    ⟨none, .ld true 2 (.l 0)⟩,
    ⟨none, .pre⟩,
    ⟨none, .ini 2 (.l 1)⟩] [(5, 0)] []) (
  .seq (.reg false [⟨none, .mov (.r 4)⟩] [(11, 0)] []) (
  .block 4 (
  .seq (.reg false [⟨none, .bin .eql (.r 11) (.v (.c (.d (.int .i64 2))))⟩,
    ⟨none, .mov (.l 0)⟩] [(12, 0)] []) (
  .cond (.r 12) (
  .seq (.seq (.reg true [⟨none, .mov (.r 0)⟩,
    ⟨none, .lns (.l 0)⟩,
    ⟨none, .bin .lss (.l 0) (.v (.c (.d (.int .i64 2))))⟩,
    ⟨none, .mov (.l 0)⟩,
    ⟨some (0, false), .mov (.r 0)⟩,
    ⟨some (1, false), .ixs (.l 0) (.v (.c (.d (.int .i64 1))))⟩,
    ⟨some (2, false), .fa 0 (.r 5)⟩,
    ⟨some (3, false), .ld false 1 (.l 0)⟩,
    ⟨some (4, false), .bin .lss (.l 2) (.l 0)⟩,
    ⟨none, .pick (.l 5) (.v (.c (.d (.bool true)))) (.l 0)⟩,
    ⟨none, .mov (.l 0)⟩,
    ⟨some (0, false), .fa 1 (.r 5)⟩,
    ⟨some (1, false), .ld false 1 (.l 0)⟩,
    ⟨some (2, false), .mov (.r 0)⟩,
    ⟨some (3, false), .ixs (.l 0) (.v (.c (.d (.int .i64 1))))⟩,
    ⟨some (4, false), .bin .lss (.l 2) (.l 0)⟩,
    ⟨none, .pick (.l 5) (.v (.c (.d (.bool true)))) (.l 0)⟩] [(13, 0)] []) (
  .cond (.r 13) (
  .seq (.reg false [⟨none, .mov (.v (.c (.d (.bool false))))⟩] [(1, 0)] []) (
  .ret)) (
  .skip))) (
  .reg false [⟨none, .mov (.r 0)⟩,
    ⟨none, .sls (.l 0) (some (.v (.c (.d (.int .i64 2))))) none⟩,
    ⟨none, .mov (.l 0)⟩] [(0, 0)] [])) (
  .seq (.reg false [⟨none, .bin .eql (.r 11) (.v (.c (.d (.int .i64 3))))⟩,
    ⟨none, .mov (.l 0)⟩] [(14, 0)] []) (
  .cond (.r 14) (
  .seq (.seq (.reg true [⟨none, .mov (.r 0)⟩,
    ⟨none, .lns (.l 0)⟩,
    ⟨none, .bin .lss (.l 0) (.v (.c (.d (.int .i64 3))))⟩,
    ⟨none, .mov (.l 0)⟩,
    ⟨some (0, false), .mov (.r 0)⟩,
    ⟨some (1, false), .ixs (.l 0) (.v (.c (.d (.int .i64 1))))⟩,
    ⟨some (2, false), .fa 0 (.r 5)⟩,
    ⟨some (3, false), .ld false 1 (.l 0)⟩,
    ⟨some (4, false), .bin .lss (.l 2) (.l 0)⟩,
    ⟨none, .pick (.l 5) (.v (.c (.d (.bool true)))) (.l 0)⟩,
    ⟨none, .mov (.l 0)⟩,
    ⟨some (0, false), .fa 1 (.r 5)⟩,
    ⟨some (1, false), .ld false 1 (.l 0)⟩,
    ⟨some (2, false), .mov (.r 0)⟩,
    ⟨some (3, false), .ixs (.l 0) (.v (.c (.d (.int .i64 1))))⟩,
    ⟨some (4, false), .bin .lss (.l 2) (.l 0)⟩,
    ⟨none, .pick (.l 5) (.v (.c (.d (.bool true)))) (.l 0)⟩,
    ⟨none, .mov (.l 0)⟩,
    ⟨some (0, false), .mov (.r 0)⟩,
    ⟨some (1, false), .ixs (.l 0) (.v (.c (.d (.int .i64 2))))⟩,
    ⟨some (2, false), .bin .lss (.l 0) (.v (.c (.d (.int .u8 128))))⟩,
    ⟨none, .pick (.l 3) (.v (.c (.d (.bool true)))) (.l 0)⟩,
    ⟨none, .mov (.l 0)⟩,
    ⟨some (0, false), .mov (.r 0)⟩,
    ⟨some (1, false), .ixs (.l 0) (.v (.c (.d (.int .i64 2))))⟩,
    ⟨some (2, false), .bin .lss (.v (.c (.d (.int .u8 191)))) (.l 0)⟩,
    ⟨none, .pick (.l 3) (.v (.c (.d (.bool true)))) (.l 0)⟩] [(15, 0)] []) (
  .cond (.r 15) (
  .seq (.reg false [⟨none, .mov (.v (.c (.d (.bool false))))⟩] [(1, 0)] []) (
  .ret)) (
  .skip))) (
  .reg false [⟨none, .mov (.r 0)⟩,
    ⟨none, .sls (.l 0) (some (.v (.c (.d (.int .i64 3))))) none⟩,
    ⟨none, .mov (.l 0)⟩] [(0, 0)] [])) (
  .seq (.reg false [⟨none, .bin .eql (.r 11) (.v (.c (.d (.int .i64 4))))⟩,
    ⟨none, .mov (.l 0)⟩] [(16, 0)] []) (
  .cond (.r 16) (
  .seq (.seq (.reg true [⟨none, .mov (.r 0)⟩,
    ⟨none, .lns (.l 0)⟩,
    ⟨none, .bin .lss (.l 0) (.v (.c (.d (.int .i64 4))))⟩,
    ⟨none, .mov (.l 0)⟩,
    ⟨some (0, false), .mov (.r 0)⟩,
    ⟨some (1, false), .ixs (.l 0) (.v (.c (.d (.int .i64 1))))⟩,
    ⟨some (2, false), .fa 0 (.r 5)⟩,
    ⟨some (3, false), .ld false 1 (.l 0)⟩,
    ⟨some (4, false), .bin .lss (.l 2) (.l 0)⟩,
    ⟨none, .pick (.l 5) (.v (.c (.d (.bool true)))) (.l 0)⟩,
    ⟨none, .mov (.l 0)⟩,
    ⟨some (0, false), .fa 1 (.r 5)⟩,
    ⟨some (1, false), .ld false 1 (.l 0)⟩,
    ⟨some (2, false), .mov (.r 0)⟩,
    ⟨some (3, false), .ixs (.l 0) (.v (.c (.d (.int .i64 1))))⟩,
    ⟨some (4, false), .bin .lss (.l 2) (.l 0)⟩,
    ⟨none, .pick (.l 5) (.v (.c (.d (.bool true)))) (.l 0)⟩,
    ⟨none, .mov (.l 0)⟩,
    ⟨some (0, false), .mov (.r 0)⟩,
    ⟨some (1, false), .ixs (.l 0) (.v (.c (.d (.int .i64 2))))⟩,
    ⟨some (2, false), .bin .lss (.l 0) (.v (.c (.d (.int .u8 128))))⟩,
    ⟨none, .pick (.l 3) (.v (.c (.d (.bool true)))) (.l 0)⟩,
    ⟨none, .mov (.l 0)⟩,
    ⟨some (0, false), .mov (.r 0)⟩,
    ⟨some (1, false), .ixs (.l 0) (.v (.c (.d (.int .i64 2))))⟩,
    ⟨some (2, false), .bin .lss (.v (.c (.d (.int .u8 191)))) (.l 0)⟩,
    ⟨none, .pick (.l 3) (.v (.c (.d (.bool true)))) (.l 0)⟩,
    ⟨none, .mov (.l 0)⟩,
    ⟨some (0, false), .mov (.r 0)⟩,
    ⟨some (1, false), .ixs (.l 0) (.v (.c (.d (.int .i64 3))))⟩,
    ⟨some (2, false), .bin .lss (.l 0) (.v (.c (.d (.int .u8 128))))⟩,
    ⟨none, .pick (.l 3) (.v (.c (.d (.bool true)))) (.l 0)⟩,
    ⟨none, .mov (.l 0)⟩,
    ⟨some (0, false), .mov (.r 0)⟩,
    ⟨some (1, false), .ixs (.l 0) (.v (.c (.d (.int .i64 3))))⟩,
    ⟨some (2, false), .bin .lss (.v (.c (.d (.int .u8 191)))) (.l 0)⟩,
    ⟨none, .pick (.l 3) (.v (.c (.d (.bool true)))) (.l 0)⟩] [(17, 0)] []) (
  .cond (.r 17) (
  .seq (.reg false [⟨none, .mov (.v (.c (.d (.bool false))))⟩] [(1, 0)] []) (
  .ret)) (
  .skip))) (
  .reg false [⟨none, .mov (.r 0)⟩,
    ⟨none, .sls (.l 0) (some (.v (.c (.d (.int .i64 4))))) none⟩,
    ⟨none, .mov (.l 0)⟩] [(0, 0)] [])) (
  .seq (.reg false [⟨none, .mov (.v (.c (.d (.bool false))))⟩] [(1, 0)] []) (
  .ret))))))))))))))))
def fn195 : Fn := ⟨1, 18, [0, 2, 3, 4, 5, 6, 9, 13, 24, 39, 62, 75, 76, 94, 97, 125, 128, 166], [.r 1],
  .seq (.reg false [⟨none, .mov (.v (.c (.d (.bool false))))⟩] [(1, 0)] []) (
  .seq (.block 0 (
  .loop (some [0]) fn195L1)) (
  .seq (.reg false [⟨none, .mov (.v (.c (.d (.bool true))))⟩] [(1, 0)] []) (
  .ret)))⟩
def fn197 : Fn := ⟨1, 1, [0], [],
  .reg false [⟨none, .mov (.r 0)⟩,
    ⟨none, .nlc (.l 0)⟩,
    ⟨none, .fa 1 (.l 0)⟩,
    ⟨none, .st 1 (.l 0) (.v (.c (.d (.str []))))⟩] [] []⟩
def fn198L0 : I := .seq (.reg false [⟨none, .bin .lss (.r 7) (.r 6)⟩] [(8, 0)] []) (
  .seq (.cond (.r 8) (
  .skip) (
  .exit 0)) (
  .seq (.block 1 (
  .seq (.reg false [⟨none, .ixa 1 (.r 5) (.r 7)⟩,
    ⟨none, .ld false 1 (.l 0)⟩,
    ⟨none, .mov (.l 0)⟩] [(3, 0)] []) (
  .seq (.reg false [⟨none, .mov (.r 3)⟩,
    ⟨none, .bin .lss (.l 0) (.v (.c (.d (.int .u8 1))))⟩,
    ⟨none, .mov (.l 0)⟩,
    ⟨some (0, false), .mov (.r 3)⟩,
    ⟨some (1, false), .bin .gtr (.l 0) (.v (.c (.d (.int .u8 127))))⟩,
    ⟨none, .pick (.l 2) (.v (.c (.d (.bool true)))) (.l 0)⟩] [(9, 0)] []) (
  .cond (.r 9) (
  .seq (.reg false [⟨none, .mov (.v (.c (.d (.int .i64 11))))⟩] [(2, 0)] []) (
  .ret)) (
  .skip))))) (
  .reg false [⟨none, .bin .add (.r 7) (.v (.c (.d (.int .i64 1))))⟩,
    ⟨none, .mov (.l 0)⟩] [(7, 0)] [])))
def fn198 : Fn := ⟨1, 10, [0, 1, 2, 4, 8, 11, 12, 13, 14, 22], [.r 2],
  .seq (.reg false [⟨none, .box (.r 0)⟩,
    ⟨none, .mov (.v (.c (.d (.int .i64 0))))⟩] [(1, 1), (2, 0)] []) (
  .seq (.seq (.reg false [⟨none, .fa 1 (.r 1)⟩,
    ⟨none, .ld false 1 (.l 0)⟩,
    ⟨none, .lns (.l 0)⟩,
    ⟨none, .bin .gtr (.l 0) (.v (.c (.d (.int .i64 1024))))⟩] [(4, 0)] []) (
  .cond (.r 4) (
  .seq (.reg false [⟨none, .mov (.v (.c (.d (.int .i64 3))))⟩] [(2, 0)] []) (
  .ret)) (
  .skip))) (
  .seq (.seq (.reg false [⟨none, .fa 1 (.r 1)⟩,
    ⟨none, .ld false 1 (.l 0)⟩,
    ⟨none, .s2b (.l 0)⟩,
    ⟨none, .len (.l 0)⟩,
    ⟨none, .mov (.v (.c (.d (.int .i64 0))))⟩] [(5, 2), (6, 1), (7, 0)] []) (
  .block 0 (
  .loop (some [5, 6, 7]) fn198L0))) (
  .seq (.reg false [⟨none, .mov (.v (.c (.d (.int .i64 0))))⟩] [(2, 0)] []) (
  .ret))))⟩
def fn199 : Fn := ⟨1, 4, [0, 1, 2, 3], [.cell 2 5 true, .r 3],
  .seq (.reg false [⟨none, .box (.r 0)⟩,
    ⟨none, .new [.int .u8 0, .bool false, .int .u32 0, .nils, .nils]⟩,
    ⟨none, .mov (.v (.c (.d (.int .i64 0))))⟩] [(1, 2), (2, 1), (3, 0)] []) (
  .seq (.bad) (
  .ret))⟩
def fn200 : Fn := ⟨1, 2, [0, 2], [.r 1],
  .seq (.reg false [⟨none, .mov (.v (.c (.d (.nils))))⟩] [(1, 0)] []) (
  .seq (.reg false [⟨none, .mov (.r 0)⟩,
    ⟨none, .mov (.r 0)⟩,
    ⟨none, .len (.l 0)⟩,
    ⟨none, .mov (.r 0)⟩,
    ⟨none, .len (.l 0)⟩,
    ⟨none, .slc 1 (.l 4) none (some (.l 2)) (some (.l 0))⟩,
    ⟨none, .mov (.l 0)⟩] [(1, 0)] []) (
  .ret))⟩
def fn201 : Fn := ⟨1, 3, [0, 5, 19], [],
  .seq (.seq (.reg false [⟨none, .mov (.r 0)⟩,
    ⟨none, .nlc (.l 0)⟩,
    ⟨none, .fa 2 (.l 0)⟩,
    ⟨none, .ld false 1 (.l 0)⟩] [(1, 0)] []) (
  .cond (.r 1) (
  .reg false [⟨none, .mov (.r 0)⟩,
    ⟨none, .mov (.r 0)⟩,
    ⟨none, .mov (.r 0)⟩,
    ⟨none, .bld [.int .u32 0, .str []] []⟩,
    ⟨none, .nlc (.l 3)⟩,
    ⟨none, .fa 2 (.l 0)⟩,
    ⟨none, .st 1 (.l 0) (.v (.c (.d (.bool false))))⟩,
    ⟨none, .nlc (.l 5)⟩,
    ⟨none, .fa 3 (.l 0)⟩,
    ⟨none, .st 2 (.l 0) (.l 5)⟩,
    ⟨none, .nlc (.l 7)⟩,
    ⟨none, .fa 5 (.l 0)⟩,
    ⟨none, .st 1 (.l 0) (.v (.c (.d (.nils))))⟩] [] []) (
  .skip))) (
  .seq (.reg false [⟨none, .mov (.r 0)⟩,
    ⟨none, .nlc (.l 0)⟩,
    ⟨none, .fa 6 (.l 0)⟩,
    ⟨none, .ld false 1 (.l 0)⟩] [(2, 0)] []) (
  .cond (.r 2) (
  .reg false [⟨none, .mov (.r 0)⟩,
    ⟨none, .mov (.r 0)⟩,
    ⟨none, .bld [.int .u32 0, .str []] []⟩,
    ⟨none, .nlc (.l 2)⟩,
    ⟨none, .fa 6 (.l 0)⟩,
    ⟨none, .st 1 (.l 0) (.v (.c (.d (.bool false))))⟩,
    ⟨none, .nlc (.l 4)⟩,
    ⟨none, .fa 7 (.l 0)⟩,
    ⟨none, .st 2 (.l 0) (.l 5)⟩] [] []) (
  .skip)))⟩
def fn202 : Fn := ⟨1, 8, [0, 1, 2, 3, 5, 10, 15, 17], [.r 2],
  .seq (.reg false [⟨none, .box (.r 0)⟩,
    ⟨none, .mov (.v (.c (.d (.int .i64 0))))⟩] [(1, 1), (2, 0)] []) (
  .seq (.seq (.reg false [⟨none, .fa 2 (.r 1)⟩,
    ⟨none, .ld false 1 (.l 0)⟩] [(4, 0)] []) (
  .cond (.r 4) (
  .seq (.seq (.reg false [⟨none, .fa 3 (.r 1)⟩,
    ⟨none, .ld true 2 (.l 0)⟩,
    ⟨none, .vc 250 [(.l 0)]⟩,
    ⟨none, .mov (.l 0)⟩] [(3, 0)] []) (
  .seq (.reg false [⟨none, .mov (.r 3)⟩,
    ⟨none, .bin .neq (.l 0) (.v (.c (.d (.int .i64 0))))⟩] [(5, 0)] []) (
  .cond (.r 5) (
  .seq (.reg false [⟨none, .mov (.r 3)⟩,
    ⟨none, .mov (.l 0)⟩] [(2, 0)] []) (
  .ret)) (
  .skip)))) (
  .seq (.reg false [⟨none, .fa 5 (.r 1)⟩,
    ⟨none, .ld false 1 (.l 0)⟩,
    ⟨none, .len (.l 0)⟩,
    ⟨none, .bin .gtr (.l 0) (.v (.c (.d (.int .i64 16))))⟩] [(6, 0)] []) (
  .cond (.r 6) (
  .seq (.reg false [⟨none, .mov (.v (.c (.d (.int .i64 3))))⟩] [(2, 0)] []) (
  .ret)) (
  .skip)))) (
  .skip))) (
  .seq (.seq (.reg false [⟨none, .fa 6 (.r 1)⟩,
    ⟨none, .ld false 1 (.l 0)⟩] [(7, 0)] []) (
  .cond (.r 7) (
  .seq (.reg false [⟨none, .fa 7 (.r 1)⟩,
    ⟨none, .ld true 2 (.l 0)⟩,
    ⟨none, .vc 250 [(.l 0)]⟩,
    ⟨none, .mov (.l 0)⟩] [(2, 0)] []) (
  .ret)) (
  .skip))) (
  .seq (.reg false [⟨none, .mov (.v (.c (.d (.int .i64 0))))⟩] [(2, 0)] []) (
  .ret))))⟩
def fn203L0 : I := .seq (.reg false [⟨none, .bin .lss (.r 15) (.r 14)⟩] [(16, 0)] []) (
  .seq (.cond (.r 16) (
  .skip) (
  .exit 0)) (
  .seq (.block 1 (
  .seq (.reg false [⟨none, .ixa 1 (.r 13) (.r 15)⟩,
    ⟨none, .ld false 1 (.l 0)⟩,
    ⟨none, .mov (.l 0)⟩] [(8, 0)] []) (
  .reg true [⟨none, .fa 4 (.r 7)⟩,
    ⟨none, .ld false 1 (.l 0)⟩,
    ⟨none, .ld true 3 (.g 6)⟩,
    ⟨none, .mov (.r 8)⟩,
    ⟨none, .cvi .i64 (.l 0)⟩,
    ⟨none, .vc 252 [(.l 0)]⟩,
    ⟨none, .bld [.int .u8 0, .bool false, .int .u32 0, .nils, .nils] [(0, 3, (.l 3)), (3, 1, (.l 0))]⟩,
    ⟨none, .bsl 1 5 [.int .u8 0, .bool false, .int .u32 0, .nils, .nils] [(0, 5, (.l 0))]⟩,
    ⟨none, .app 5 (.l 6) (.l 0)⟩,
    ⟨none, .fa 4 (.r 7)⟩,
    ⟨none, .st 1 (.l 0) (.l 1)⟩] [] []))) (
  .reg false [⟨none, .bin .add (.r 15) (.v (.c (.d (.int .i64 1))))⟩,
    ⟨none, .mov (.l 0)⟩] [(15, 0)] [])))
def fn203 : Fn := ⟨1, 19, [0, 1, 2, 3, 4, 5, 6, 7, 9, 10, 11, 15, 23, 29, 30, 31, 32, 61, 69], [.cell 2 5 true, .r 3],
  .seq (.reg false [⟨none, .box (.r 0)⟩,
    ⟨none, .new [.int .u8 0, .bool false, .int .u32 0, .nils, .nils]⟩,
    ⟨none, .mov (.v (.c (.d (.int .i64 0))))⟩] [(1, 2), (2, 1), (3, 0)] []) (
  .seq (.reg false [⟨none, .ld true 3 (.g 0)⟩,
    ⟨none, .bld [.int .u8 0, .bool false, .int .u32 0, .nils, .nils] [(0, 3, (.l 0))]⟩,
    ⟨none, .pre⟩,
    ⟨none, .ini 5 (.l 1)⟩] [(4, 0)] []) (
  .seq (.seq (.reg false [⟨none, .fa 2 (.r 1)⟩,
    ⟨none, .ld false 1 (.l 0)⟩] [(11, 0)] []) (
  .cond (.r 11) (
  .seq (.reg false [⟨none, .fa 3 (.r 1)⟩,
    ⟨none, .ld true 2 (.l 0)⟩,
    ⟨none, .vc 251 [(.l 0)]⟩,
    ⟨none, .mov (.l 0)⟩,
    ⟨none, .ext (.l 0) 0⟩,
    ⟨none, .ext (.l 1) 1⟩,
    ⟨none, .pre⟩,
    ⟨none, .ini 5 (.l 2)⟩,
    ⟨none, .mov (.l 2)⟩] [(5, 1), (6, 0)] []) (
  .seq (.seq (.reg false [⟨none, .mov (.r 6)⟩,
    ⟨none, .bin .neq (.l 0) (.v (.c (.d (.int .i64 0))))⟩] [(12, 0)] []) (
  .cond (.r 12) (
  .seq (.reg false [⟨none, .bld [.int .u8 0, .bool false, .int .u32 0, .nils, .nils] []⟩,
    ⟨none, .mov (.r 6)⟩,
    ⟨none, .st 5 (.r 2) (.l 1)⟩,
    ⟨none, .mov (.l 1)⟩] [(3, 0)] []) (
  .ret)) (
  .skip))) (
  .seq (.reg false [⟨none, .ld true 3 (.g 0)⟩,
    ⟨none, .bld [.int .u8 0, .bool false, .int .u32 0, .nils, .nils] [(0, 3, (.l 0))]⟩,
    ⟨none, .pre⟩,
    ⟨none, .ini 5 (.l 1)⟩] [(7, 0)] []) (
  .seq (.seq (.reg false [⟨none, .fa 5 (.r 1)⟩,
    ⟨none, .ld false 1 (.l 0)⟩,
    ⟨none, .len (.l 0)⟩,
    ⟨none, .mov (.v (.c (.d (.int .i64 0))))⟩] [(13, 2), (14, 1), (15, 0)] []) (
  .block 0 (
  .seq (.fresh 7 (some 4) 5) (
  .loop (some [1, 2, 4, 5, 7, 13, 14, 15]) fn203L0)))) (
  .seq (.reg false [⟨none, .fa 4 (.r 7)⟩,
    ⟨none, .ld false 1 (.l 0)⟩,
    ⟨none, .hc (.v (.c (.d (.fn 253 [] [])))) [(.l 0)]⟩,
    ⟨none, .fa 4 (.r 7)⟩,
    ⟨none, .st 1 (.l 0) (.l 1)⟩] [] []) (
  .reg false [⟨none, .fa 4 (.r 4)⟩,
    ⟨none, .ld false 1 (.l 0)⟩,
    ⟨none, .ld true 3 (.g 0)⟩,
    ⟨none, .ld true 5 (.r 5)⟩,
    ⟨none, .ld true 5 (.r 7)⟩,
    ⟨none, .bsl 2 5 [.int .u8 0, .bool false, .int .u32 0, .nils, .nils] [(0, 5, (.l 1)), (5, 5, (.l 0))]⟩,
    ⟨none, .bld [.int .u8 0, .bool false, .int .u32 0, .nils, .nils] [(0, 3, (.l 3)), (4, 1, (.l 0))]⟩,
    ⟨none, .bsl 1 5 [.int .u8 0, .bool false, .int .u32 0, .nils, .nils] [(0, 5, (.l 0))]⟩,
    ⟨none, .app 5 (.l 6) (.l 0)⟩,
    ⟨none, .fa 4 (.r 4)⟩,
    ⟨none, .st 1 (.l 0) (.l 1)⟩] [] [])))))) (
  .skip))) (
  .seq (.seq (.reg false [⟨none, .fa 6 (.r 1)⟩,
    ⟨none, .ld false 1 (.l 0)⟩] [(17, 0)] []) (
  .cond (.r 17) (
  .seq (.reg false [⟨none, .fa 7 (.r 1)⟩,
    ⟨none, .ld true 2 (.l 0)⟩,
    ⟨none, .vc 251 [(.l 0)]⟩,
    ⟨none, .mov (.l 0)⟩,
    ⟨none, .ext (.l 0) 0⟩,
    ⟨none, .ext (.l 1) 1⟩,
    ⟨none, .pre⟩,
    ⟨none, .ini 5 (.l 2)⟩,
    ⟨none, .mov (.l 2)⟩] [(9, 1), (10, 0)] []) (
  .seq (.seq (.reg false [⟨none, .mov (.r 10)⟩,
    ⟨none, .bin .neq (.l 0) (.v (.c (.d (.int .i64 0))))⟩] [(18, 0)] []) (
  .cond (.r 18) (
  .seq (.reg false [⟨none, .bld [.int .u8 0, .bool false, .int .u32 0, .nils, .nils] []⟩,
    ⟨none, .mov (.r 10)⟩,
    ⟨none, .st 5 (.r 2) (.l 1)⟩,
    ⟨none, .mov (.l 1)⟩] [(3, 0)] []) (
  .ret)) (
  .skip))) (
  .reg false [⟨none, .fa 4 (.r 4)⟩,
    ⟨none, .ld false 1 (.l 0)⟩,
    ⟨none, .ld true 5 (.r 9)⟩,
    ⟨none, .bsl 1 5 [.int .u8 0, .bool false, .int .u32 0, .nils, .nils] [(0, 5, (.l 0))]⟩,
    ⟨none, .app 5 (.l 2) (.l 0)⟩,
    ⟨none, .fa 4 (.r 4)⟩,
    ⟨none, .st 1 (.l 0) (.l 1)⟩] [] []))) (
  .skip))) (
  .seq (.reg false [⟨none, .fa 4 (.r 4)⟩,
    ⟨none, .ld false 1 (.l 0)⟩,
    ⟨none, .hc (.v (.c (.d (.fn 253 [] [])))) [(.l 0)]⟩,
    ⟨none, .fa 4 (.r 4)⟩,
    ⟨none, .st 1 (.l 0) (.l 1)⟩] [] []) (
  .seq (.reg false [⟨none, .ld true 5 (.r 4)⟩,
    ⟨none, .st 5 (.r 2) (.l 0)⟩,
    ⟨none, .mov (.v (.c (.d (.int .i64 0))))⟩] [(3, 0)] []) (
  .ret))))))⟩
def fn204 : Fn := ⟨1, 1, [0], [],
  .reg false [⟨none, .mov (.r 0)⟩,
    ⟨none, .mov (.r 0)⟩,
    ⟨none, .bld [.int .u8 0, .int .u32 0, .int .u32 0, .int .u32 0, .int .u32 0, .int .u32 0, .int .u32 0, .int .u32 0, .int .u32 0, .int .u32 0, .int .u32 0, .int .u32 0, .int .u32 0, .int .u32 0, .int .u32 0, .int .u32 0, .int .u32 0] []⟩,
    ⟨none, .nlc (.l 2)⟩,
    ⟨none, .fa 9 (.l 0)⟩,
    ⟨none, .st 17 (.l 0) (.l 2)⟩,
    ⟨none, .nlc (.l 4)⟩,
    ⟨none, .fa 26 (.l 0)⟩,
    ⟨none, .st 1 (.l 0) (.v (.c (.d (.nils))))⟩] [] []⟩
def fn205 : Fn := ⟨1, 7, [0, 1, 2, 3, 6, 11, 22], [.r 2],
  .seq (.reg false [⟨none, .box (.r 0)⟩,
    ⟨none, .mov (.v (.c (.d (.int .i64 0))))⟩] [(1, 1), (2, 0)] []) (
  .seq (.seq (.reg false [⟨none, .fa 9 (.r 1)⟩,
    ⟨none, .ld true 17 (.l 0)⟩,
    ⟨none, .vc 52 [(.l 0)]⟩,
    ⟨none, .mov (.l 0)⟩] [(3, 0)] []) (
  .seq (.reg false [⟨none, .mov (.r 3)⟩,
    ⟨none, .bin .neq (.l 0) (.v (.c (.d (.int .i64 0))))⟩] [(5, 0)] []) (
  .cond (.r 5) (
  .seq (.reg false [⟨none, .mov (.r 3)⟩,
    ⟨none, .mov (.l 0)⟩] [(2, 0)] []) (
  .ret)) (
  .skip)))) (
  .seq (.seq (.reg true [⟨none, .fa 9 (.r 1)⟩,
    ⟨none, .ld true 17 (.l 0)⟩,
    ⟨none, .vc 153 [(.v (.c (.d (.int .u8 1))))]⟩,
    ⟨none, .eqa false 17 (.l 1) (.l 0)⟩,
    ⟨none, .mov (.l 0)⟩,
    ⟨some (0, false), .fa 9 (.r 1)⟩,
    ⟨some (1, false), .ld true 17 (.l 0)⟩,
    ⟨some (2, false), .vc 153 [(.v (.c (.d (.int .u8 2))))]⟩,
    ⟨some (3, false), .eqa false 17 (.l 1) (.l 0)⟩,
    ⟨none, .pick (.l 4) (.v (.c (.d (.bool true)))) (.l 0)⟩] [(6, 0)] []) (
  .cond (.r 6) (
  .seq (.reg false [⟨none, .mov (.v (.c (.d (.int .i64 1))))⟩] [(2, 0)] []) (
  .ret)) (
  .skip))) (
  .seq (.reg false [⟨none, .fa 26 (.r 1)⟩,
    ⟨none, .ld false 1 (.l 0)⟩,
    ⟨none, .vc 138 [(.l 0)]⟩,
    ⟨none, .mov (.l 0)⟩,
    ⟨none, .ext (.l 0) 0⟩,
    ⟨none, .ext (.l 1) 1⟩,
    ⟨none, .ext (.l 2) 2⟩,
    ⟨none, .pre⟩,
    ⟨none, .ini 5 (.l 3)⟩,
    ⟨none, .mov (.l 3)⟩,
    ⟨none, .mov (.l 3)⟩] [(4, 0)] []) (
  .seq (.reg false [⟨none, .mov (.r 4)⟩,
    ⟨none, .mov (.l 0)⟩] [(2, 0)] []) (
  .ret)))))⟩
def fn206 : Fn := ⟨1, 6, [0, 1, 2, 3, 4, 6], [.cell 2 5 true, .r 3],
  .seq (.reg false [⟨none, .box (.r 0)⟩,
    ⟨none, .new [.int .u8 0, .bool false, .int .u32 0, .nils, .nils]⟩,
    ⟨none, .mov (.v (.c (.d (.int .i64 0))))⟩] [(1, 2), (2, 1), (3, 0)] []) (
  .seq (.reg false [⟨none, .fa 26 (.r 1)⟩,
    ⟨none, .ld false 1 (.l 0)⟩,
    ⟨none, .vc 138 [(.l 0)]⟩,
    ⟨none, .mov (.l 0)⟩,
    ⟨none, .ext (.l 0) 0⟩,
    ⟨none, .ext (.l 1) 1⟩,
    ⟨none, .ext (.l 2) 2⟩,
    ⟨none, .pre⟩,
    ⟨none, .ini 5 (.l 3)⟩,
    ⟨none, .mov (.l 3)⟩,
    ⟨none, .mov (.l 3)⟩] [(4, 2), (5, 0)] []) (
  .seq (.reg false [⟨none, .ld true 5 (.r 4)⟩,
    ⟨none, .mov (.r 5)⟩,
    ⟨none, .st 5 (.r 2) (.l 1)⟩,
    ⟨none, .mov (.l 1)⟩] [(3, 0)] []) (
  .ret)))⟩
def fn207 : Fn := ⟨1, 3, [0, 2, 4], [.r 1],
  .seq (.reg false [⟨none, .mov (.v (.c (.d (.nils))))⟩] [(1, 0)] []) (
  .seq (.seq (.reg false [⟨none, .mov (.r 0)⟩,
    ⟨none, .isz 3 false (.l 0)⟩] [(2, 0)] []) (
  .cond (.r 2) (
  .seq (.reg false [⟨none, .mov (.v (.c (.d (.nils))))⟩] [(1, 0)] []) (
  .ret)) (
  .skip))) (
  .seq (.bad) (
  .ret)))⟩
def fn208 : Fn := ⟨1, 3, [0, 1, 2], [.r 2],
  .seq (.reg false [⟨none, .box (.r 0)⟩,
    ⟨none, .mov (.v (.c (.d (.nilf))))⟩] [(1, 1), (2, 0)] []) (
  .seq (.reg false [⟨none, .mkf 254 [] [(.r 1)]⟩,
    ⟨none, .mov (.l 0)⟩] [(2, 0)] []) (
  .ret))⟩
def fn209 : Fn := ⟨1, 3, [0, 2, 4], [.r 1],
  .seq (.reg false [⟨none, .mov (.v (.c (.d (.str []))))⟩] [(1, 0)] []) (
  .seq (.seq (.reg false [⟨none, .mov (.r 0)⟩,
    ⟨none, .bin .lss (.l 0) (.v (.c (.d (.int .i64 10))))⟩] [(2, 0)] []) (
  .cond (.r 2) (
  .seq (.reg false [⟨none, .mov (.r 0)⟩,
    ⟨none, .mov (.r 0)⟩,
    ⟨none, .bin .add (.l 0) (.v (.c (.d (.int .i64 1))))⟩,
    ⟨none, .sls (.v (.c (.d (.str [48, 49, 50, 51, 52, 53, 54, 55, 56, 57, 97, 98, 99, 100, 101, 102, 103, 104, 105, 106, 107, 108, 109, 110, 111, 112, 113, 114, 115, 116, 117, 118, 119, 120, 121, 122])))) (some (.l 2)) (some (.l 0))⟩,
    ⟨none, .mov (.l 0)⟩] [(1, 0)] []) (
  .ret)) (
  .skip))) (
  .seq (.reg false [⟨none, .mov (.r 0)⟩,
    ⟨none, .bin .mul (.l 0) (.v (.c (.d (.int .i64 2))))⟩,
    ⟨none, .mov (.r 0)⟩,
    ⟨none, .bin .mul (.l 0) (.v (.c (.d (.int .i64 2))))⟩,
    ⟨none, .bin .add (.l 0) (.v (.c (.d (.int .i64 2))))⟩,
    ⟨none, .sls (.v (.c (.d (.str [48, 48, 48, 49, 48, 50, 48, 51, 48, 52, 48, 53, 48, 54, 48, 55, 48, 56, 48, 57, 49, 48, 49, 49, 49, 50, 49, 51, 49, 52, 49, 53, 49, 54, 49, 55, 49, 56, 49, 57, 50, 48, 50, 49, 50, 50, 50, 51, 50, 52, 50, 53, 50, 54, 50, 55, 50, 56, 50, 57, 51, 48, 51, 49, 51, 50, 51, 51, 51, 52, 51, 53, 51, 54, 51, 55, 51, 56, 51, 57, 52, 48, 52, 49, 52, 50, 52, 51, 52, 52, 52, 53, 52, 54, 52, 55, 52, 56, 52, 57, 53, 48, 53, 49, 53, 50, 53, 51, 53, 52, 53, 53, 53, 54, 53, 55, 53, 56, 53, 57, 54, 48, 54, 49, 54, 50, 54, 51, 54, 52, 54, 53, 54, 54, 54, 55, 54, 56, 54, 57, 55, 48, 55, 49, 55, 50, 55, 51, 55, 52, 55, 53, 55, 54, 55, 55, 55, 56, 55, 57, 56, 48, 56, 49, 56, 50, 56, 51, 56, 52, 56, 53, 56, 54, 56, 55, 56, 56, 56, 57, 57, 48, 57, 49, 57, 50, 57, 51, 57, 52, 57, 53, 57, 54, 57, 55, 57, 56, 57, 57])))) (some (.l 3)) (some (.l 0))⟩,
    ⟨none, .mov (.l 0)⟩] [(1, 0)] []) (
  .ret)))⟩
def fn214 : Fn := ⟨2, 6, [0, 1, 2, 3, 4, 5], [.r 4],
  .seq (.reg false [⟨none, .box (.r 0)⟩,
    ⟨none, .box (.r 1)⟩,
    ⟨none, .mov (.v (.c (.d (.int .i64 0))))⟩] [(2, 2), (3, 1), (4, 0)] []) (
  .seq (.reg false [⟨none, .new [.nilf]⟩] [(5, 0)] []) (
  .seq (.reg false [⟨none, .mkf 260 [] [(.r 3), (.r 5)]⟩,
    ⟨none, .st 1 (.r 5) (.l 0)⟩] [] []) (
  .seq (.reg false [⟨none, .ld false 1 (.r 5)⟩,
    ⟨none, .ld true 5 (.r 2)⟩,
    ⟨none, .hc (.l 1) [(.l 0), (.v (.c (.d (.int .i64 1))))]⟩,
    ⟨none, .mov (.l 0)⟩] [(4, 0)] []) (
  .ret))))⟩
def fn215 : Fn := ⟨4, 11, [0, 1, 2, 3, 4, 6, 7, 12, 14, 36, 39], [.r 5],
  .seq (.reg false [⟨none, .box (.r 0)⟩,
    ⟨none, .mov (.v (.c (.d (.int .i64 0))))⟩] [(4, 1), (5, 0)] []) (
  .seq (.seq (.reg false [⟨none, .fa 0 (.r 4)⟩,
    ⟨none, .ld true 3 (.l 0)⟩,
    ⟨none, .vc 216 [(.l 0)]⟩,
    ⟨none, .mov (.l 0)⟩] [(6, 0)] []) (
  .seq (.reg false [⟨none, .mov (.r 6)⟩,
    ⟨none, .bin .neq (.l 0) (.v (.c (.d (.int .i64 0))))⟩] [(7, 0)] []) (
  .cond (.r 7) (
  .seq (.reg false [⟨none, .mov (.r 6)⟩,
    ⟨none, .mov (.l 0)⟩] [(5, 0)] []) (
  .ret)) (
  .skip)))) (
  .seq (.block 0 (
  .seq (.reg false [⟨none, .fa 0 (.r 4)⟩,
    ⟨none, .fa 1 (.l 0)⟩,
    ⟨none, .ld false 1 (.l 0)⟩,
    ⟨none, .mov (.l 0)⟩,
    ⟨some (0, true), .fa 3 (.r 4)⟩,
    ⟨some (1, true), .ld false 1 (.l 0)⟩,
    ⟨some (2, true), .len (.l 0)⟩,
    ⟨some (3, true), .bin .gtr (.l 0) (.v (.c (.d (.int .i64 0))))⟩,
    ⟨none, .pick (.l 4) (.l 0) (.v (.c (.d (.bool false))))⟩,
    ⟨none, .mov (.l 0)⟩,
    ⟨some (0, false), .fa 0 (.r 4)⟩,
    ⟨some (1, false), .fa 1 (.l 0)⟩,
    ⟨some (2, false), .ld false 1 (.l 0)⟩,
    ⟨some (3, false), .un .not (.l 0)⟩,
    ⟨some (4, false), .mov (.l 0)⟩,
    ⟨some (0, true), .fa 4 (.r 4)⟩,
    ⟨some (1, true), .ld false 1 (.l 0)⟩,
    ⟨some (2, true), .len (.l 0)⟩,
    ⟨some (3, true), .bin .gtr (.l 0) (.v (.c (.d (.int .i64 0))))⟩,
    ⟨some (9, false), .pick (.l 4) (.l 0) (.v (.c (.d (.bool false))))⟩,
    ⟨none, .pick (.l 10) (.v (.c (.d (.bool true)))) (.l 0)⟩,
    ⟨none, .mov (.l 0)⟩] [(8, 0)] []) (
  .cond (.r 8) (
  .seq (.reg false [⟨none, .mov (.v (.c (.d (.int .i64 1))))⟩] [(5, 0)] []) (
  .ret)) (
  .seq (.reg false [⟨none, .mov (.r 1)⟩,
    ⟨none, .bin .gtr (.l 0) (.v (.c (.d (.int .i64 16))))⟩,
    ⟨none, .mov (.l 0)⟩] [(9, 0)] []) (
  .cond (.r 9) (
  .seq (.reg false [⟨none, .mov (.v (.c (.d (.int .i64 12))))⟩] [(5, 0)] []) (
  .ret)) (
  .seq (.reg false [⟨none, .ld false 1 (.r 2)⟩,
    ⟨none, .bin .eql (.l 0) (.v (.c (.d (.int .i64 8192))))⟩,
    ⟨none, .mov (.l 0)⟩] [(10, 0)] []) (
  .cond (.r 10) (
  .seq (.reg false [⟨none, .mov (.v (.c (.d (.int .i64 3))))⟩] [(5, 0)] []) (
  .ret)) (
  .skip)))))))) (
  .seq (.reg false [⟨none, .ld false 1 (.r 2)⟩,
    ⟨none, .bin .add (.l 0) (.v (.c (.d (.int .i64 1))))⟩,
    ⟨none, .st 1 (.r 2) (.l 0)⟩] [] []) (
  .seq (.reg false [⟨none, .ld false 1 (.r 3)⟩,
    ⟨none, .mov (.r 1)⟩,
    ⟨none, .mm true (.l 1) (.l 0)⟩,
    ⟨none, .st 1 (.r 3) (.l 0)⟩] [] []) (
  .seq (.reg false [⟨none, .mov (.v (.c (.d (.int .i64 0))))⟩] [(5, 0)] []) (
  .ret))))))⟩
def fn216 : Fn := ⟨1, 9, [0, 1, 2, 10, 13, 15, 16, 18, 23], [.r 2],
  .seq (.reg false [⟨none, .box (.r 0)⟩,
    ⟨none, .mov (.v (.c (.d (.int .i64 0))))⟩] [(1, 1), (2, 0)] []) (
  .seq (.seq (.reg false [⟨none, .fa 0 (.r 1)⟩,
    ⟨none, .ld false 1 (.l 0)⟩,
    ⟨none, .bin .gtr (.l 0) (.v (.c (.d (.int .u8 3))))⟩,
    ⟨none, .mov (.l 0)⟩,
    ⟨some (0, false), .fa 2 (.r 1)⟩,
    ⟨some (1, false), .ld false 1 (.l 0)⟩,
    ⟨some (2, false), .bin .gtr (.l 0) (.v (.c (.d (.int .u32 268435455))))⟩,
    ⟨none, .pick (.l 3) (.v (.c (.d (.bool true)))) (.l 0)⟩] [(3, 0)] []) (
  .cond (.r 3) (
  .seq (.reg false [⟨none, .mov (.v (.c (.d (.int .i64 1))))⟩] [(2, 0)] []) (
  .ret)) (
  .skip))) (
  .seq (.seq (.reg false [⟨none, .fa 0 (.r 1)⟩,
    ⟨none, .ld false 1 (.l 0)⟩,
    ⟨none, .bin .neq (.l 0) (.v (.c (.d (.int .u8 0))))⟩] [(4, 0)] []) (
  .cond (.r 4) (
  .seq (.reg false [⟨none, .mov (.v (.c (.d (.int .i64 0))))⟩] [(2, 0)] []) (
  .ret)) (
  .skip))) (
  .seq (.seq (.reg false [⟨none, .fa 2 (.r 1)⟩,
    ⟨none, .ld false 1 (.l 0)⟩] [(5, 0)] []) (
  .block 0 (
  .seq (.reg false [⟨none, .bin .eql (.r 5) (.v (.c (.d (.int .u32 0))))⟩,
    ⟨none, .mov (.l 0)⟩] [(6, 0)] []) (
  .cond (.r 6) (
  .seq (.reg false [⟨none, .mov (.v (.c (.d (.int .i64 9))))⟩] [(2, 0)] []) (
  .ret)) (
  .seq (.seq (.reg false [⟨none, .bin .eql (.r 5) (.v (.c (.d (.int .u32 16))))⟩,
    ⟨none, .mov (.l 0)⟩] [(7, 0)] []) (
  .cond (.r 7) (
  .skip) (
  .reg false [⟨none, .bin .eql (.r 5) (.v (.c (.d (.int .u32 17))))⟩,
    ⟨none, .mov (.l 0)⟩] [(7, 0)] []))) (
  .cond (.r 7) (
  .seq (.reg false [⟨none, .fa 1 (.r 1)⟩,
    ⟨none, .ld false 1 (.l 0)⟩,
    ⟨none, .un .not (.l 0)⟩] [(8, 0)] []) (
  .cond (.r 8) (
  .seq (.reg false [⟨none, .mov (.v (.c (.d (.int .i64 9))))⟩] [(2, 0)] []) (
  .ret)) (
  .skip))) (
  .skip))))))) (
  .seq (.reg false [⟨none, .mov (.v (.c (.d (.int .i64 0))))⟩] [(2, 0)] []) (
  .ret)))))⟩
def fn217 : Fn := ⟨1, 3, [0, 2, 3], [.r 1],
  .seq (.reg false [⟨none, .mov (.v (.c (.d (.int .i64 0))))⟩] [(1, 0)] []) (
  .seq (.reg false [⟨none, .mov (.r 0)⟩,
    ⟨none, .vc 163 [(.l 0)]⟩,
    ⟨none, .mov (.l 0)⟩,
    ⟨none, .ext (.l 0) 0⟩,
    ⟨none, .ext (.l 1) 1⟩,
    ⟨none, .mov (.l 1)⟩,
    ⟨none, .mov (.l 1)⟩] [(2, 1)] []) (
  .seq (.reg false [⟨none, .mov (.r 2)⟩,
    ⟨none, .len (.l 0)⟩,
    ⟨none, .mov (.l 0)⟩] [(1, 0)] []) (
  .ret)))⟩
def fn218 : Fn := ⟨1, 3, [0, 1, 2], [.r 2],
  .seq (.reg false [⟨none, .box (.r 0)⟩,
    ⟨none, .mov (.v (.c (.d (.nilf))))⟩] [(1, 1), (2, 0)] []) (
  .seq (.reg false [⟨none, .mkf 261 [] [(.r 1)]⟩,
    ⟨none, .mov (.l 0)⟩] [(2, 0)] []) (
  .ret))⟩
def fn225 : Fn := ⟨1, 2, [0, 2], [.r 1],
  .seq (.reg false [⟨none, .mov (.v (.c (.d (.bool false))))⟩] [(1, 0)] []) (
  .seq (.reg false [⟨none, .mov (.r 0)⟩,
    ⟨none, .mov (.r 0)⟩,
    ⟨none, .bin .neq (.l 1) (.l 0)⟩,
    ⟨none, .mov (.l 0)⟩] [(1, 0)] []) (
  .ret))⟩
def fn228 : Fn := ⟨1, 2, [0, 2], [.r 1],
  .seq (.reg false [⟨none, .mov (.v (.c (.d (.int .i64 0))))⟩] [(1, 0)] []) (
  .seq (.reg false [⟨none, .mov (.r 0)⟩,
    ⟨none, .bin .add (.l 0) (.v (.c (.d (.int .i64 16))))⟩,
    ⟨none, .bin .quo (.l 0) (.v (.c (.d (.int .i64 8))))⟩,
    ⟨none, .mov (.l 0)⟩] [(1, 0)] []) (
  .ret))⟩
def fn230L0 : I := .seq (.reg false [⟨none, .nxs (.r 2)⟩,
    ⟨none, .ext (.l 0) 0⟩] [(3, 0)] []) (
  .seq (.cond (.r 3) (
  .skip) (
  .exit 0)) (
  .block 1 (
  .reg false [⟨none, .mov (.r 1)⟩,
    ⟨none, .bin .add (.l 0) (.v (.c (.d (.int .i64 1))))⟩,
    ⟨none, .mov (.l 0)⟩] [(1, 0)] [])))
def fn230 : Fn := ⟨1, 4, [0, 2, 4, 6], [.r 1],
  .seq (.reg false [⟨none, .mov (.v (.c (.d (.int .i64 0))))⟩] [(1, 0)] []) (
  .seq (.seq (.reg false [⟨none, .mov (.r 0)⟩,
    ⟨none, .rgs (.l 0)⟩] [(2, 0)] []) (
  .block 0 (
  .loop (some [1, 2]) fn230L0))) (
  .seq (.reg false [⟨none, .mov (.r 1)⟩,
    ⟨none, .mov (.l 0)⟩] [(1, 0)] []) (
  .ret)))⟩
def fn233L0 : I := .seq (.reg false [⟨none, .bin .lss (.r 5) (.r 4)⟩] [(6, 0)] []) (
  .seq (.cond (.r 6) (
  .skip) (
  .exit 0)) (
  .seq (.block 1 (
  .seq (.reg false [⟨none, .mov (.r 5)⟩,
    ⟨none, .mov (.l 0)⟩] [(3, 0)] []) (
  .seq (.reg false [⟨none, .mov (.r 1)⟩,
    ⟨none, .mov (.r 0)⟩,
    ⟨none, .mov (.r 3)⟩,
    ⟨none, .ixa 1 (.l 1) (.l 0)⟩,
    ⟨none, .ld false 1 (.l 0)⟩,
    ⟨none, .hc (.l 4) [(.l 0)]⟩] [(7, 0)] []) (
  .cond (.r 7) (
  .seq (.reg false [⟨none, .mov (.r 3)⟩,
    ⟨none, .mov (.l 0)⟩] [(2, 0)] []) (
  .ret)) (
  .skip))))) (
  .reg false [⟨none, .bin .add (.r 5) (.v (.c (.d (.int .i64 1))))⟩,
    ⟨none, .mov (.l 0)⟩] [(5, 0)] [])))
def fn233 : Fn := ⟨2, 8, [0, 1, 4, 5, 7, 8, 9, 16], [.r 2],
  .seq (.reg false [⟨none, .mov (.v (.c (.d (.int .i64 0))))⟩] [(2, 0)] []) (
  .seq (.seq (.reg false [⟨none, .mov (.r 0)⟩,
    ⟨none, .len (.l 0)⟩,
    ⟨none, .mov (.v (.c (.d (.int .i64 0))))⟩] [(4, 1), (5, 0)] []) (
  .block 0 (
  .loop (some [0, 1, 4, 5]) fn233L0))) (
  .seq (.reg false [⟨none, .mov (.v (.c (.d (.int .i64 (-1)))))⟩] [(2, 0)] []) (
  .ret)))⟩
def fn235L0 : I := .seq (.reg false [⟨none, .bin .lss (.r 28) (.r 27)⟩] [(29, 0)] []) (
  .seq (.cond (.r 29) (
  .skip) (
  .exit 3)) (
  .seq (.block 4 (
  .seq (.reg false [⟨none, .ixa 1 (.r 26) (.r 28)⟩,
    ⟨none, .ld false 1 (.l 0)⟩,
    ⟨none, .mov (.l 0)⟩] [(11, 0)] []) (
  .seq (.reg false [⟨none, .mov (.v (.c (.d (.int .u8 0))))⟩] [(12, 0)] []) (
  .seq (.block 5 (
  .seq (.reg false [⟨none, .mov (.r 11)⟩,
    ⟨none, .bin .eql (.l 0) (.v (.c (.d (.int .u8 95))))⟩,
    ⟨none, .mov (.l 0)⟩,
    ⟨some (0, true), .mov (.r 5)⟩,
    ⟨none, .pick (.l 1) (.l 0) (.v (.c (.d (.bool false))))⟩,
    ⟨none, .mov (.l 0)⟩] [(30, 0)] []) (
  .cond (.r 30) (
  .seq (.reg false [⟨none, .mov (.v (.c (.d (.bool true))))⟩] [(9, 0)] []) (
  .exit 4)) (
  .seq (.reg false [⟨none, .mov (.r 11)⟩,
    ⟨none, .bin .leq (.v (.c (.d (.int .u8 48)))) (.l 0)⟩,
    ⟨none, .mov (.l 0)⟩,
    ⟨some (0, true), .mov (.r 11)⟩,
    ⟨some (1, true), .bin .leq (.l 0) (.v (.c (.d (.int .u8 57))))⟩,
    ⟨none, .pick (.l 2) (.l 0) (.v (.c (.d (.bool false))))⟩,
    ⟨none, .mov (.l 0)⟩] [(31, 0)] []) (
  .cond (.r 31) (
  .reg false [⟨none, .mov (.r 11)⟩,
    ⟨none, .bin .sub (.l 0) (.v (.c (.d (.int .u8 48))))⟩,
    ⟨none, .mov (.l 0)⟩] [(12, 0)] []) (
  .seq (.reg false [⟨none, .mov (.r 11)⟩,
    ⟨none, .vc 273 [(.l 0)]⟩,
    ⟨none, .bin .leq (.v (.c (.d (.int .u8 97)))) (.l 0)⟩,
    ⟨none, .mov (.l 0)⟩,
    ⟨some (0, true), .mov (.r 11)⟩,
    ⟨some (1, true), .vc 273 [(.l 0)]⟩,
    ⟨some (2, true), .bin .leq (.l 0) (.v (.c (.d (.int .u8 122))))⟩,
    ⟨none, .pick (.l 3) (.l 0) (.v (.c (.d (.bool false))))⟩,
    ⟨none, .mov (.l 0)⟩] [(32, 0)] []) (
  .cond (.r 32) (
  .reg false [⟨none, .mov (.r 11)⟩,
    ⟨none, .vc 273 [(.l 0)]⟩,
    ⟨none, .bin .sub (.l 0) (.v (.c (.d (.int .u8 97))))⟩,
    ⟨none, .bin .add (.l 0) (.v (.c (.d (.int .u8 10))))⟩,
    ⟨none, .mov (.l 0)⟩] [(12, 0)] []) (
  .seq (.reg false [⟨none, .mki (.v (.c (.d (.int .i64 2))))⟩,
    ⟨none, .mov (.v (.c (.d (.int .u64 0))))⟩,
    ⟨none, .mov (.l 1)⟩] [(3, 1), (4, 0)] []) (
  .ret))))))))) (
  .seq (.seq (.reg false [⟨none, .mov (.r 12)⟩,
    ⟨none, .mov (.r 1)⟩,
    ⟨none, .cvi .u8 (.l 0)⟩,
    ⟨none, .bin .geq (.l 2) (.l 0)⟩] [(33, 0)] []) (
  .cond (.r 33) (
  .seq (.reg false [⟨none, .mki (.v (.c (.d (.int .i64 2))))⟩,
    ⟨none, .mov (.v (.c (.d (.int .u64 0))))⟩,
    ⟨none, .mov (.l 1)⟩] [(3, 1), (4, 0)] []) (
  .ret)) (
  .skip))) (
  .seq (.seq (.reg false [⟨none, .mov (.r 10)⟩,
    ⟨none, .mov (.r 7)⟩,
    ⟨none, .bin .geq (.l 1) (.l 0)⟩] [(34, 0)] []) (
  .cond (.r 34) (
  .seq (.reg false [⟨none, .mov (.r 8)⟩,
    ⟨none, .mki (.v (.c (.d (.int .i64 1))))⟩,
    ⟨none, .mov (.l 1)⟩,
    ⟨none, .mov (.l 1)⟩] [(3, 1), (4, 0)] []) (
  .ret)) (
  .skip))) (
  .seq (.reg false [⟨none, .mov (.r 10)⟩,
    ⟨none, .mov (.r 1)⟩,
    ⟨none, .cvi .u64 (.l 0)⟩,
    ⟨none, .bin .mul (.l 2) (.l 0)⟩,
    ⟨none, .mov (.l 0)⟩] [(10, 0)] []) (
  .seq (.reg false [⟨none, .mov (.r 10)⟩,
    ⟨none, .mov (.r 12)⟩,
    ⟨none, .cvi .u64 (.l 0)⟩,
    ⟨none, .bin .add (.l 2) (.l 0)⟩,
    ⟨none, .mov (.l 0)⟩] [(13, 0)] []) (
  .seq (.seq (.reg false [⟨none, .mov (.r 13)⟩,
    ⟨none, .mov (.r 10)⟩,
    ⟨none, .bin .lss (.l 1) (.l 0)⟩,
    ⟨none, .mov (.l 0)⟩,
    ⟨some (0, false), .mov (.r 13)⟩,
    ⟨some (1, false), .mov (.r 8)⟩,
    ⟨some (2, false), .bin .gtr (.l 1) (.l 0)⟩,
    ⟨none, .pick (.l 3) (.v (.c (.d (.bool true)))) (.l 0)⟩] [(35, 0)] []) (
  .cond (.r 35) (
  .seq (.reg false [⟨none, .mov (.r 8)⟩,
    ⟨none, .mki (.v (.c (.d (.int .i64 1))))⟩,
    ⟨none, .mov (.l 1)⟩,
    ⟨none, .mov (.l 1)⟩] [(3, 1), (4, 0)] []) (
  .ret)) (
  .skip))) (
  .reg false [⟨none, .mov (.r 13)⟩,
    ⟨none, .mov (.l 0)⟩] [(10, 0)] [])))))))))) (
  .reg false [⟨none, .bin .add (.r 28) (.v (.c (.d (.int .i64 1))))⟩,
    ⟨none, .mov (.l 0)⟩] [(28, 0)] [])))
def fn235 : Fn := ⟨3, 37, [0, 1, 2, 6, 7, 8, 9, 10, 11, 12, 13, 15, 16, 17, 19, 25, 32, 37, 40, 52, 64, 77, 83, 85, 90, 92, 99, 100, 101, 102, 106, 112, 121, 137, 141, 159, 169], [.r 3, .r 4],
  .seq (.reg false [⟨none, .mov (.v (.c (.d (.int .u64 0))))⟩,
    ⟨none, .mov (.v (.c (.d (.nili))))⟩] [(3, 1), (4, 0)] []) (
  .seq (.seq (.reg false [⟨none, .mov (.r 0)⟩,
    ⟨none, .bin .eql (.l 0) (.v (.c (.d (.str []))))⟩] [(14, 0)] []) (
  .cond (.r 14) (
  .seq (.reg false [⟨none, .mki (.v (.c (.d (.int .i64 2))))⟩,
    ⟨none, .mov (.v (.c (.d (.int .u64 0))))⟩,
    ⟨none, .mov (.l 1)⟩] [(3, 1), (4, 0)] []) (
  .ret)) (
  .skip))) (
  .seq (.reg false [⟨none, .mov (.r 1)⟩,
    ⟨none, .bin .eql (.l 0) (.v (.c (.d (.int .i64 0))))⟩,
    ⟨none, .mov (.l 0)⟩] [(5, 0)] []) (
  .seq (.reg false [⟨none, .mov (.r 0)⟩,
    ⟨none, .mov (.l 0)⟩] [(6, 0)] []) (
  .seq (.block 0 (
  .seq (.reg false [⟨none, .mov (.r 1)⟩,
    ⟨none, .bin .leq (.v (.c (.d (.int .i64 2)))) (.l 0)⟩,
    ⟨none, .mov (.l 0)⟩,
    ⟨some (0, true), .mov (.r 1)⟩,
    ⟨some (1, true), .bin .leq (.l 0) (.v (.c (.d (.int .i64 36))))⟩,
    ⟨none, .pick (.l 2) (.l 0) (.v (.c (.d (.bool false))))⟩,
    ⟨none, .mov (.l 0)⟩] [(15, 0)] []) (
  .cond (.r 15) (
  .skip) (
  .seq (.reg false [⟨none, .mov (.r 1)⟩,
    ⟨none, .bin .eql (.l 0) (.v (.c (.d (.int .i64 0))))⟩,
    ⟨none, .mov (.l 0)⟩] [(16, 0)] []) (
  .cond (.r 16) (
  .seq (.reg false [⟨none, .mov (.v (.c (.d (.int .i64 10))))⟩] [(1, 0)] []) (
  .seq (.reg false [⟨none, .mov (.r 0)⟩,
    ⟨none, .ixs (.l 0) (.v (.c (.d (.int .i64 0))))⟩,
    ⟨none, .bin .eql (.l 0) (.v (.c (.d (.int .u8 48))))⟩] [(17, 0)] []) (
  .cond (.r 17) (
  .block 1 (
  .seq (.reg false [⟨none, .mov (.r 0)⟩,
    ⟨none, .lns (.l 0)⟩,
    ⟨none, .bin .geq (.l 0) (.v (.c (.d (.int .i64 3))))⟩,
    ⟨none, .mov (.l 0)⟩,
    ⟨some (0, true), .mov (.r 0)⟩,
    ⟨some (1, true), .ixs (.l 0) (.v (.c (.d (.int .i64 1))))⟩,
    ⟨some (2, true), .vc 273 [(.l 0)]⟩,
    ⟨some (3, true), .bin .eql (.l 0) (.v (.c (.d (.int .u8 98))))⟩,
    ⟨none, .pick (.l 4) (.l 0) (.v (.c (.d (.bool false))))⟩,
    ⟨none, .mov (.l 0)⟩] [(18, 0)] []) (
  .cond (.r 18) (
  .seq (.reg false [⟨none, .mov (.v (.c (.d (.int .i64 2))))⟩] [(1, 0)] []) (
  .reg false [⟨none, .mov (.r 0)⟩,
    ⟨none, .sls (.l 0) (some (.v (.c (.d (.int .i64 2))))) none⟩,
    ⟨none, .mov (.l 0)⟩] [(0, 0)] [])) (
  .seq (.reg false [⟨none, .mov (.r 0)⟩,
    ⟨none, .lns (.l 0)⟩,
    ⟨none, .bin .geq (.l 0) (.v (.c (.d (.int .i64 3))))⟩,
    ⟨none, .mov (.l 0)⟩,
    ⟨some (0, true), .mov (.r 0)⟩,
    ⟨some (1, true), .ixs (.l 0) (.v (.c (.d (.int .i64 1))))⟩,
    ⟨some (2, true), .vc 273 [(.l 0)]⟩,
    ⟨some (3, true), .bin .eql (.l 0) (.v (.c (.d (.int .u8 111))))⟩,
    ⟨none, .pick (.l 4) (.l 0) (.v (.c (.d (.bool false))))⟩,
    ⟨none, .mov (.l 0)⟩] [(19, 0)] []) (
  .cond (.r 19) (
  .seq (.reg false [⟨none, .mov (.v (.c (.d (.int .i64 8))))⟩] [(1, 0)] []) (
  .reg false [⟨none, .mov (.r 0)⟩,
    ⟨none, .sls (.l 0) (some (.v (.c (.d (.int .i64 2))))) none⟩,
    ⟨none, .mov (.l 0)⟩] [(0, 0)] [])) (
  .seq (.reg false [⟨none, .mov (.r 0)⟩,
    ⟨none, .lns (.l 0)⟩,
    ⟨none, .bin .geq (.l 0) (.v (.c (.d (.int .i64 3))))⟩,
    ⟨none, .mov (.l 0)⟩,
    ⟨some (0, true), .mov (.r 0)⟩,
    ⟨some (1, true), .ixs (.l 0) (.v (.c (.d (.int .i64 1))))⟩,
    ⟨some (2, true), .vc 273 [(.l 0)]⟩,
    ⟨some (3, true), .bin .eql (.l 0) (.v (.c (.d (.int .u8 120))))⟩,
    ⟨none, .pick (.l 4) (.l 0) (.v (.c (.d (.bool false))))⟩,
    ⟨none, .mov (.l 0)⟩] [(20, 0)] []) (
  .cond (.r 20) (
  .seq (.reg false [⟨none, .mov (.v (.c (.d (.int .i64 16))))⟩] [(1, 0)] []) (
  .reg false [⟨none, .mov (.r 0)⟩,
    ⟨none, .sls (.l 0) (some (.v (.c (.d (.int .i64 2))))) none⟩,
    ⟨none, .mov (.l 0)⟩] [(0, 0)] [])) (
  .seq (.reg false [⟨none, .mov (.v (.c (.d (.int .i64 8))))⟩] [(1, 0)] []) (
  .reg false [⟨none, .mov (.r 0)⟩,
    ⟨none, .sls (.l 0) (some (.v (.c (.d (.int .i64 1))))) none⟩,
    ⟨none, .mov (.l 0)⟩] [(0, 0)] []))))))))) (
  .skip)))) (
  .seq (.reg false [⟨none, .mki (.v (.c (.d (.int .i64 3))))⟩,
    ⟨none, .mov (.v (.c (.d (.int .u64 0))))⟩,
    ⟨none, .mov (.l 1)⟩] [(3, 1), (4, 0)] []) (
  .ret))))))) (
  .seq (.seq (.reg false [⟨none, .mov (.r 2)⟩,
    ⟨none, .bin .eql (.l 0) (.v (.c (.d (.int .i64 0))))⟩] [(21, 0)] []) (
  .cond (.r 21) (
  .reg false [⟨none, .mov (.v (.c (.d (.int .i64 64))))⟩] [(2, 0)] []) (
  .seq (.reg false [⟨none, .mov (.r 2)⟩,
    ⟨none, .bin .lss (.l 0) (.v (.c (.d (.int .i64 0))))⟩,
    ⟨none, .mov (.l 0)⟩,
    ⟨some (0, false), .mov (.r 2)⟩,
    ⟨some (1, false), .bin .gtr (.l 0) (.v (.c (.d (.int .i64 64))))⟩,
    ⟨none, .pick (.l 2) (.v (.c (.d (.bool true)))) (.l 0)⟩] [(22, 0)] []) (
  .cond (.r 22) (
  .seq (.reg false [⟨none, .mki (.v (.c (.d (.int .i64 4))))⟩,
    ⟨none, .mov (.v (.c (.d (.int .u64 0))))⟩,
    ⟨none, .mov (.l 1)⟩] [(3, 1), (4, 0)] []) (
  .ret)) (
  .skip))))) (
  .seq (.reg false [⟨none, .mov (.v (.c (.d (.int .u64 0))))⟩] [(7, 0)] []) (
  .seq (.seq (.reg false [⟨none, .mov (.r 1)⟩] [(23, 0)] []) (
  .block 2 (
  .seq (.reg false [⟨none, .bin .eql (.r 23) (.v (.c (.d (.int .i64 10))))⟩,
    ⟨none, .mov (.l 0)⟩] [(24, 0)] []) (
  .cond (.r 24) (
  .reg false [⟨none, .mov (.v (.c (.d (.int .u64 1844674407370955162))))⟩] [(7, 0)] []) (
  .seq (.reg false [⟨none, .bin .eql (.r 23) (.v (.c (.d (.int .i64 16))))⟩,
    ⟨none, .mov (.l 0)⟩] [(25, 0)] []) (
  .cond (.r 25) (
  .reg false [⟨none, .mov (.v (.c (.d (.int .u64 1152921504606846976))))⟩] [(7, 0)] []) (
  .reg false [⟨none, .mov (.r 1)⟩,
    ⟨none, .cvi .u64 (.l 0)⟩,
    ⟨none, .bin .quo (.v (.c (.d (.int .u64 18446744073709551615)))) (.l 0)⟩,
    ⟨none, .bin .add (.l 0) (.v (.c (.d (.int .u64 1))))⟩,
    ⟨none, .mov (.l 0)⟩] [(7, 0)] []))))))) (
  .seq (.reg false [⟨none, .mov (.r 2)⟩,
    ⟨none, .cvi .u64 (.l 0)⟩,
    ⟨none, .bin .shl (.v (.c (.d (.int .u64 1)))) (.l 0)⟩,
    ⟨none, .bin .sub (.l 0) (.v (.c (.d (.int .u64 1))))⟩,
    ⟨none, .mov (.l 0)⟩] [(8, 0)] []) (
  .seq (.reg false [⟨none, .mov (.v (.c (.d (.bool false))))⟩] [(9, 0)] []) (
  .seq (.reg false [⟨none, .mov (.v (.c (.d (.int .u64 0))))⟩] [(10, 0)] []) (
  .seq (.seq (.reg false [⟨none, .mov (.r 0)⟩,
    ⟨none, .s2b (.l 0)⟩,
    ⟨none, .len (.l 0)⟩,
    ⟨none, .mov (.v (.c (.d (.int .i64 0))))⟩] [(26, 2), (27, 1), (28, 0)] []) (
  .block 3 (
  .loop (some [1, 5, 6, 7, 8, 9, 10, 26, 27, 28]) fn235L0))) (
  .seq (.seq (.reg false [⟨none, .mov (.r 9)⟩,
    ⟨none, .mov (.l 0)⟩,
    ⟨some (0, true), .mov (.r 6)⟩,
    ⟨some (1, true), .vc 274 [(.l 0)]⟩,
    ⟨some (2, true), .un .not (.l 0)⟩,
    ⟨none, .pick (.l 3) (.l 0) (.v (.c (.d (.bool false))))⟩] [(36, 0)] []) (
  .cond (.r 36) (
  .seq (.reg false [⟨none, .mki (.v (.c (.d (.int .i64 2))))⟩,
    ⟨none, .mov (.v (.c (.d (.int .u64 0))))⟩,
    ⟨none, .mov (.l 1)⟩] [(3, 1), (4, 0)] []) (
  .ret)) (
  .skip))) (
  .seq (.reg false [⟨none, .mov (.r 10)⟩,
    ⟨none, .mov (.l 0)⟩,
    ⟨none, .mov (.v (.c (.d (.nili))))⟩] [(3, 1), (4, 0)] []) (
  .ret))))))))))))))⟩
def fn236 : Fn := ⟨5, 11, [0, 1, 2, 3, 4, 10, 11, 12, 19, 26, 34], [.r 5],
  .seq (.reg false [⟨none, .mov (.v (.c (.d (.nili))))⟩] [(5, 0)] []) (
  .seq (.seq (.reg false [⟨none, .mov (.r 4)⟩] [(6, 0)] []) (
  .block 0 (
  .seq (.bad) (
  .cond (.r 7) (
  .seq (.reg false [⟨none, .mov (.r 0)⟩,
    ⟨none, .mov (.r 1)⟩,
    ⟨none, .vc 275 [(.l 1), (.l 0)]⟩,
    ⟨none, .mki (.l 0)⟩,
    ⟨none, .mov (.l 0)⟩] [(5, 0)] []) (
  .ret)) (
  .seq (.bad) (
  .cond (.r 8) (
  .seq (.reg false [⟨none, .mov (.r 0)⟩,
    ⟨none, .mov (.r 1)⟩,
    ⟨none, .vc 276 [(.l 1), (.l 0)]⟩,
    ⟨none, .mki (.l 0)⟩,
    ⟨none, .mov (.l 0)⟩] [(5, 0)] []) (
  .ret)) (
  .seq (.bad) (
  .cond (.r 9) (
  .seq (.reg false [⟨none, .mov (.r 0)⟩,
    ⟨none, .mov (.r 1)⟩,
    ⟨none, .mov (.r 2)⟩,
    ⟨none, .vc 277 [(.l 2), (.l 1), (.l 0)]⟩,
    ⟨none, .mki (.l 0)⟩,
    ⟨none, .mov (.l 0)⟩] [(5, 0)] []) (
  .ret)) (
  .seq (.bad) (
  .cond (.r 10) (
  .seq (.reg false [⟨none, .mov (.r 0)⟩,
    ⟨none, .mov (.r 1)⟩,
    ⟨none, .mov (.r 3)⟩,
    ⟨none, .vc 278 [(.l 2), (.l 1), (.l 0)]⟩,
    ⟨none, .mki (.l 0)⟩,
    ⟨none, .mov (.l 0)⟩] [(5, 0)] []) (
  .ret)) (
  .skip))))))))))) (
  .seq (.reg false [⟨none, .mov (.r 4)⟩,
    ⟨none, .mov (.l 0)⟩] [(5, 0)] []) (
  .ret)))⟩
def fn239 : Fn := ⟨2, 3, [0, 1, 4], [.cell 2 2 true],
  .seq (.reg false [⟨none, .new [.nils, .int .i64 0]⟩] [(2, 0)] []) (
  .seq (.reg false [⟨none, .mov (.r 1)⟩,
    ⟨none, .hc (.v (.c (.d (.fn 282 [] [])))) [(.l 0)]⟩,
    ⟨none, .mov (.r 0)⟩,
    ⟨none, .bld [.nils, .int .i64 0] [(0, 1, (.l 1)), (1, 1, (.l 0))]⟩,
    ⟨none, .st 2 (.r 2) (.l 0)⟩] [] []) (
  .ret))⟩
def fn240 : Fn := ⟨2, 5, [0, 1, 2, 3, 4], [.r 4],
  .seq (.reg false [⟨none, .box (.r 0)⟩,
    ⟨none, .box (.r 1)⟩,
    ⟨none, .mov (.v (.c (.d (.bool false))))⟩] [(2, 2), (3, 1), (4, 0)] []) (
  .seq (.reg false [⟨none, .fa 3 (.r 2)⟩,
    ⟨none, .ld false 1 (.l 0)⟩,
    ⟨none, .mov (.l 0)⟩,
    ⟨some (0, false), .fa 0 (.r 2)⟩,
    ⟨some (1, false), .ld true 3 (.l 0)⟩,
    ⟨some (2, false), .fa 0 (.r 3)⟩,
    ⟨some (3, false), .ld true 3 (.l 0)⟩,
    ⟨some (4, false), .eqk false [0, 1, 0] (.l 2) (.l 0)⟩,
    ⟨none, .pick (.l 5) (.v (.c (.d (.bool true)))) (.l 0)⟩,
    ⟨none, .mov (.l 0)⟩] [(4, 0)] []) (
  .ret))⟩
def fn241 : Fn := ⟨3, 4, [0, 1, 2, 6], [.r 3],
  .seq (.reg false [⟨none, .mov (.v (.c (.d (.bool false))))⟩] [(3, 0)] []) (
  .seq (.reg false [⟨none, .mov (.r 0)⟩,
    ⟨none, .mov (.r 1)⟩,
    ⟨none, .bld [.nils, .int .i64 0] [(1, 1, (.l 0))]⟩,
    ⟨none, .mov (.r 2)⟩,
    ⟨none, .vc 243 [(.l 3), (.l 1), (.l 0)]⟩,
    ⟨none, .mov (.l 0)⟩] [(3, 0)] []) (
  .ret))⟩
def fn242 : Fn := ⟨1, 7, [0, 1, 2, 3, 5, 13, 26], [.cell 2 2 true, .r 3],
  .seq (.reg false [⟨none, .box (.r 0)⟩,
    ⟨none, .new [.int .u32 0, .str []]⟩,
    ⟨none, .mov (.v (.c (.d (.int .i64 0))))⟩] [(1, 2), (2, 1), (3, 0)] []) (
  .seq (.reg false [⟨none, .fa 0 (.r 1)⟩,
    ⟨none, .fa 2 (.l 0)⟩,
    ⟨none, .ld false 1 (.l 0)⟩,
    ⟨none, .vc 283 [(.l 0)]⟩,
    ⟨none, .mov (.l 0)⟩,
    ⟨none, .ext (.l 0) 0⟩,
    ⟨none, .ext (.l 1) 1⟩,
    ⟨none, .pre⟩,
    ⟨none, .ini 3 (.l 2)⟩,
    ⟨none, .mov (.l 2)⟩] [(4, 0)] []) (
  .seq (.block 0 (
  .seq (.reg false [⟨none, .mov (.r 4)⟩,
    ⟨none, .un .not (.l 0)⟩,
    ⟨none, .mov (.l 0)⟩,
    ⟨some (0, false), .fa 0 (.r 1)⟩,
    ⟨some (1, false), .ld true 3 (.l 0)⟩,
    ⟨some (2, false), .fa 0 (.r 1)⟩,
    ⟨some (3, false), .fa 2 (.l 0)⟩,
    ⟨some (4, false), .ld false 1 (.l 0)⟩,
    ⟨some (5, false), .bld [.int .u8 0, .bool false, .int .u32 0] [(2, 1, (.l 0))]⟩,
    ⟨some (6, false), .eqk true [0, 1, 0] (.l 4) (.l 0)⟩,
    ⟨none, .pick (.l 7) (.v (.c (.d (.bool true)))) (.l 0)⟩,
    ⟨none, .mov (.l 0)⟩] [(5, 0)] []) (
  .cond (.r 5) (
  .seq (.reg false [⟨none, .bld [.int .u32 0, .str []] []⟩,
    ⟨none, .st 2 (.r 2) (.l 0)⟩,
    ⟨none, .mov (.v (.c (.d (.int .i64 9))))⟩] [(3, 0)] []) (
  .ret)) (
  .seq (.reg false [⟨none, .fa 4 (.r 1)⟩,
    ⟨none, .ld false 1 (.l 0)⟩,
    ⟨none, .len (.l 0)⟩,
    ⟨none, .bin .gtr (.l 0) (.v (.c (.d (.int .i64 0))))⟩,
    ⟨none, .mov (.l 0)⟩] [(6, 0)] []) (
  .cond (.r 6) (
  .seq (.reg false [⟨none, .bld [.int .u32 0, .str []] []⟩,
    ⟨none, .st 2 (.r 2) (.l 0)⟩,
    ⟨none, .mov (.v (.c (.d (.int .i64 1))))⟩] [(3, 0)] []) (
  .ret)) (
  .skip)))))) (
  .seq (.reg false [⟨none, .fa 0 (.r 1)⟩,
    ⟨none, .fa 2 (.l 0)⟩,
    ⟨none, .ld false 1 (.l 0)⟩,
    ⟨none, .fa 3 (.r 1)⟩,
    ⟨none, .ld false 1 (.l 0)⟩,
    ⟨none, .vc 284 [(.l 2), (.l 0)]⟩,
    ⟨none, .ext (.l 0) 0⟩,
    ⟨none, .ext (.l 1) 1⟩,
    ⟨none, .st 2 (.r 2) (.l 1)⟩,
    ⟨none, .mov (.l 1)⟩] [(3, 0)] []) (
  .ret))))⟩
def fn243 : Fn := ⟨3, 10, [0, 1, 2, 4, 6, 8, 14, 16, 17, 18], [.r 4],
  .seq (.reg false [⟨none, .box (.r 1)⟩,
    ⟨none, .mov (.v (.c (.d (.bool false))))⟩] [(3, 1), (4, 0)] []) (
  .seq (.seq (.reg false [⟨none, .mov (.r 0)⟩,
    ⟨none, .nlc (.l 0)⟩,
    ⟨none, .fa 0 (.l 0)⟩,
    ⟨none, .fa 1 (.l 0)⟩,
    ⟨none, .ld false 1 (.l 0)⟩,
    ⟨none, .bin .eql (.l 0) (.v (.c (.d (.int .i64 0))))⟩] [(6, 0)] []) (
  .cond (.r 6) (
  .seq (.seq (.reg false [⟨none, .mov (.r 2)⟩,
    ⟨none, .vc 285 [(.l 0)]⟩] [(7, 0)] []) (
  .block 0 (
  .rf (.r 7) [8, 9] (
  .reg false [⟨none, .mov (.r 9)⟩] [(5, 0)] []) (
  .block 1 (
  .reg false [⟨none, .mov (.r 5)⟩,
    ⟨none, .ld true 2 (.r 3)⟩,
    ⟨none, .vc 188 [(.l 1), (.l 0)]⟩,
    ⟨none, .st 2 (.r 3) (.l 0)⟩] [] []))))) (
  .reg false [⟨none, .mov (.r 0)⟩,
    ⟨none, .ld true 2 (.r 3)⟩,
    ⟨none, .nlc (.l 1)⟩,
    ⟨none, .fa 0 (.l 0)⟩,
    ⟨none, .st 2 (.l 0) (.l 2)⟩] [] [])) (
  .skip))) (
  .seq (.reg false [⟨none, .mov (.r 0)⟩,
    ⟨none, .nlc (.l 0)⟩,
    ⟨none, .fa 0 (.l 0)⟩,
    ⟨none, .fa 1 (.l 0)⟩,
    ⟨none, .ld false 1 (.l 0)⟩,
    ⟨none, .bin .neq (.l 0) (.v (.c (.d (.int .i64 0))))⟩,
    ⟨none, .mov (.l 0)⟩] [(4, 0)] []) (
  .ret)))⟩
def fn244L0 : I := .seq (.reg false [⟨none, .bin .lss (.r 12) (.r 11)⟩] [(13, 0)] []) (
  .seq (.cond (.r 13) (
  .skip) (
  .exit 0)) (
  .seq (.block 1 (
  .seq (.reg false [⟨none, .mov (.r 12)⟩,
    ⟨none, .ixa 5 (.r 10) (.r 12)⟩,
    ⟨none, .ld true 5 (.l 0)⟩,
    ⟨none, .pre⟩,
    ⟨none, .mov (.l 3)⟩,
    ⟨none, .ini 5 (.l 2)⟩] [(6, 1), (7, 0)] []) (
  .reg true [⟨none, .mov (.r 2)⟩,
    ⟨none, .mov (.r 2)⟩,
    ⟨none, .nlc (.l 0)⟩,
    ⟨none, .fa 5 (.l 0)⟩,
    ⟨none, .ld false 1 (.l 0)⟩,
    ⟨none, .mov (.r 0)⟩,
    ⟨none, .ld true 5 (.r 7)⟩,
    ⟨none, .mov (.r 6)⟩,
    ⟨none, .bsl 4 1 [.int .i64 0] [(0, 1, (.v (.c (.d (.int .i64 1))))), (1, 1, (.v (.c (.d (.int .i64 0))))), (2, 1, (.v (.c (.d (.int .i64 1))))), (3, 1, (.l 0))]⟩,
    ⟨none, .vc 287 [(.l 3), (.l 2), (.l 0)]⟩,
    ⟨none, .bsl 1 1 [.int .u32 0] [(0, 1, (.l 0))]⟩,
    ⟨none, .app 1 (.l 6) (.l 0)⟩,
    ⟨none, .nlc (.l 11)⟩,
    ⟨none, .fa 5 (.l 0)⟩,
    ⟨none, .st 1 (.l 0) (.l 2)⟩] [] []))) (
  .reg false [⟨none, .bin .add (.r 12) (.v (.c (.d (.int .i64 1))))⟩,
    ⟨none, .mov (.l 0)⟩] [(12, 0)] [])))
def fn244 : Fn := ⟨3, 14, [0, 1, 2, 4, 7, 8, 9, 10, 24, 48, 53, 54, 55, 56], [],
  .seq (.reg false [⟨none, .box (.r 1)⟩] [(3, 0)] []) (
  .seq (.seq (.reg false [⟨none, .ld true 5 (.r 3)⟩,
    ⟨none, .ld true 3 (.g 0)⟩,
    ⟨none, .bld [.int .u8 0, .bool false, .int .u32 0, .bool false, .bool false] [(3, 1, (.v (.c (.d (.bool true)))))]⟩,
    ⟨none, .ld true 3 (.g 0)⟩,
    ⟨none, .bld [.int .u8 0, .bool false, .int .u32 0, .bool false, .bool false] [(0, 3, (.l 0))]⟩,
    ⟨none, .bsl 2 5 [.int .u8 0, .bool false, .int .u32 0, .bool false, .bool false] [(0, 5, (.l 2)), (5, 5, (.l 0))]⟩,
    ⟨none, .vc 186 [(.l 5), (.l 4), (.l 0)]⟩,
    ⟨none, .mov (.l 0)⟩,
    ⟨none, .ext (.l 0) 0⟩,
    ⟨none, .ext (.l 1) 1⟩,
    ⟨none, .pre⟩,
    ⟨none, .mov (.l 2)⟩,
    ⟨none, .ini 2 (.l 2)⟩] [(4, 0)] []) (
  .seq (.reg false [⟨none, .mov (.r 0)⟩,
    ⟨none, .ld true 2 (.r 4)⟩,
    ⟨none, .bsl 2 1 [.int .i64 0] [(0, 1, (.v (.c (.d (.int .i64 1))))), (1, 1, (.v (.c (.d (.int .i64 0)))))]⟩,
    ⟨none, .vc 243 [(.l 2), (.l 1), (.l 0)]⟩] [(8, 0)] []) (
  .cond (.r 8) (
  .ret) (
  .skip)))) (
  .seq (.reg false [⟨none, .mov (.r 0)⟩,
    ⟨none, .mkf 245 [(.l 0)] []⟩,
    ⟨none, .mov (.l 0)⟩] [(5, 0)] []) (
  .seq (.reg false [⟨none, .mov (.r 2)⟩,
    ⟨none, .mov (.r 2)⟩,
    ⟨none, .mov (.r 5)⟩,
    ⟨none, .fa 4 (.r 3)⟩,
    ⟨none, .ld false 1 (.l 0)⟩,
    ⟨none, .ixa 5 (.l 0) (.v (.c (.d (.int .i64 0))))⟩,
    ⟨none, .ld true 5 (.l 0)⟩,
    ⟨none, .bsl 3 1 [.int .i64 0] [(0, 1, (.v (.c (.d (.int .i64 1))))), (1, 1, (.v (.c (.d (.int .i64 0))))), (2, 1, (.v (.c (.d (.int .i64 0)))))]⟩,
    ⟨none, .hc (.l 5) [(.l 1), (.l 0)]⟩,
    ⟨none, .nlc (.l 8)⟩,
    ⟨none, .fa 2 (.l 0)⟩,
    ⟨none, .st 1 (.l 0) (.v (.c (.d (.bool true))))⟩,
    ⟨none, .nlc (.l 10)⟩,
    ⟨none, .fa 3 (.l 0)⟩,
    ⟨none, .st 2 (.l 0) (.l 5)⟩] [] []) (
  .seq (.seq (.reg true [⟨none, .mov (.r 0)⟩,
    ⟨none, .fa 4 (.r 3)⟩,
    ⟨none, .ld false 1 (.l 0)⟩,
    ⟨none, .ixa 5 (.l 0) (.v (.c (.d (.int .i64 1))))⟩,
    ⟨none, .ld true 5 (.l 0)⟩,
    ⟨none, .ld true 3 (.g 0)⟩,
    ⟨none, .vc 286 [(.l 1), (.l 0), (.v (.c (.d (.int .i64 0)))), (.v (.c (.d (.int .i64 16))))]⟩,
    ⟨none, .bsl 3 1 [.int .i64 0] [(0, 1, (.v (.c (.d (.int .i64 1))))), (1, 1, (.v (.c (.d (.int .i64 0))))), (2, 1, (.v (.c (.d (.int .i64 1)))))]⟩,
    ⟨none, .vc 243 [(.l 7), (.l 1), (.l 0)]⟩] [(9, 0)] []) (
  .cond (.r 9) (
  .ret) (
  .skip))) (
  .seq (.seq (.reg false [⟨none, .fa 4 (.r 3)⟩,
    ⟨none, .ld false 1 (.l 0)⟩,
    ⟨none, .ixa 5 (.l 0) (.v (.c (.d (.int .i64 1))))⟩,
    ⟨none, .fa 4 (.l 0)⟩,
    ⟨none, .ld false 1 (.l 0)⟩,
    ⟨none, .len (.l 0)⟩,
    ⟨none, .mov (.v (.c (.d (.int .i64 0))))⟩] [(10, 2), (11, 1), (12, 0)] []) (
  .block 0 (
  .loop (some [0, 2, 10, 11, 12]) fn244L0))) (
  .reg false [⟨none, .mov (.r 2)⟩,
    ⟨none, .mov (.r 2)⟩,
    ⟨none, .nlc (.l 0)⟩,
    ⟨none, .fa 5 (.l 0)⟩,
    ⟨none, .ld false 1 (.l 0)⟩,
    ⟨none, .hc (.v (.c (.d (.fn 288 [] [])))) [(.l 0)]⟩,
    ⟨none, .nlc (.l 5)⟩,
    ⟨none, .fa 5 (.l 0)⟩,
    ⟨none, .st 1 (.l 0) (.l 2)⟩] [] []))))))⟩
def fn245 : Fn := ⟨3, 9, [0, 1, 2, 4, 6, 7, 8, 25, 36], [.cell 4 2 true],
  .seq (.reg false [⟨none, .box (.r 1)⟩,
    ⟨none, .new [.int .u32 0, .str []]⟩] [(3, 1), (4, 0)] []) (
  .seq (.seq (.reg true [⟨none, .fa 0 (.r 3)⟩,
    ⟨none, .fa 0 (.l 0)⟩,
    ⟨none, .ld false 1 (.l 0)⟩,
    ⟨none, .bin .neq (.l 0) (.v (.c (.d (.int .u8 0))))⟩,
    ⟨none, .mov (.l 0)⟩,
    ⟨some (0, false), .fa 0 (.r 3)⟩,
    ⟨some (1, false), .fa 1 (.l 0)⟩,
    ⟨some (2, false), .ld false 1 (.l 0)⟩,
    ⟨none, .pick (.l 3) (.v (.c (.d (.bool true)))) (.l 0)⟩,
    ⟨none, .mov (.l 0)⟩,
    ⟨some (0, false), .slp 4 1 (.g 8) none none none⟩,
    ⟨some (1, false), .fa 0 (.r 3)⟩,
    ⟨some (2, false), .fa 2 (.l 0)⟩,
    ⟨some (3, false), .ld false 1 (.l 0)⟩,
    ⟨some (4, false), .vc 289 [(.l 3), (.l 0)]⟩,
    ⟨some (5, false), .un .not (.l 0)⟩,
    ⟨none, .pick (.l 6) (.v (.c (.d (.bool true)))) (.l 0)⟩] [(7, 0)] []) (
  .cond (.r 7) (
  .seq (.reg false [⟨none, .mov (.r 0)⟩,
    ⟨none, .mov (.r 2)⟩,
    ⟨none, .vc 241 [(.l 1), (.v (.c (.d (.int .i64 9)))), (.l 0)]⟩] [] []) (
  .seq (.reg false [⟨none, .bld [.int .u32 0, .str []] []⟩,
    ⟨none, .st 2 (.r 4) (.l 0)⟩] [] []) (
  .ret))) (
  .skip))) (
  .seq (.reg false [⟨none, .ld true 5 (.r 3)⟩,
    ⟨none, .vc 242 [(.l 0)]⟩,
    ⟨none, .mov (.l 0)⟩,
    ⟨none, .ext (.l 0) 0⟩,
    ⟨none, .ext (.l 1) 1⟩,
    ⟨none, .pre⟩,
    ⟨none, .ini 2 (.l 2)⟩,
    ⟨none, .mov (.l 2)⟩] [(5, 1), (6, 0)] []) (
  .seq (.seq (.reg false [⟨none, .mov (.r 6)⟩,
    ⟨none, .bin .eql (.l 0) (.v (.c (.d (.int .i64 0))))⟩] [(8, 0)] []) (
  .cond (.r 8) (
  .reg false [⟨none, .ld true 2 (.r 5)⟩,
    ⟨none, .vc 250 [(.l 0)]⟩,
    ⟨none, .mov (.l 0)⟩] [(6, 0)] []) (
  .skip))) (
  .seq (.reg false [⟨none, .mov (.r 0)⟩,
    ⟨none, .mov (.r 6)⟩,
    ⟨none, .mov (.r 2)⟩,
    ⟨none, .vc 241 [(.l 2), (.l 1), (.l 0)]⟩] [] []) (
  .seq (.reg false [⟨none, .ld true 2 (.r 5)⟩,
    ⟨none, .st 2 (.r 4) (.l 0)⟩] [] []) (
  .ret))))))⟩
def fn246L0 : I := .seq (.reg false [⟨none, .bin .lss (.r 14) (.r 13)⟩] [(15, 0)] []) (
  .seq (.cond (.r 15) (
  .skip) (
  .exit 0)) (
  .seq (.block 1 (
  .seq (.reg false [⟨none, .ixa 1 (.r 12) (.r 14)⟩,
    ⟨none, .ld false 1 (.l 0)⟩,
    ⟨none, .mov (.l 0)⟩] [(6, 0)] []) (
  .seq (.reg false [⟨none, .mov (.r 6)⟩,
    ⟨none, .bin .sub (.l 0) (.v (.c (.d (.int .u8 48))))⟩,
    ⟨none, .mov (.l 0)⟩] [(6, 0)] []) (
  .seq (.seq (.reg false [⟨none, .mov (.r 6)⟩,
    ⟨none, .bin .gtr (.l 0) (.v (.c (.d (.int .u8 9))))⟩] [(16, 0)] []) (
  .cond (.r 16) (
  .seq (.reg false [⟨none, .mki (.v (.c (.d (.int .i64 2))))⟩,
    ⟨none, .mov (.v (.c (.d (.int .i64 0))))⟩,
    ⟨none, .mov (.l 1)⟩] [(1, 1), (2, 0)] []) (
  .ret)) (
  .skip))) (
  .reg false [⟨none, .mov (.r 5)⟩,
    ⟨none, .bin .mul (.l 0) (.v (.c (.d (.int .i64 10))))⟩,
    ⟨none, .mov (.r 6)⟩,
    ⟨none, .cvi .i64 (.l 0)⟩,
    ⟨none, .bin .add (.l 2) (.l 0)⟩,
    ⟨none, .mov (.l 0)⟩] [(5, 0)] []))))) (
  .reg false [⟨none, .bin .add (.r 14) (.v (.c (.d (.int .i64 1))))⟩,
    ⟨none, .mov (.l 0)⟩] [(14, 0)] [])))
def fn246 : Fn := ⟨1, 18, [0, 2, 3, 4, 5, 6, 8, 9, 10, 30, 39, 44, 47, 48, 49, 50, 56, 66], [.r 1, .r 2],
  .seq (.reg false [⟨none, .mov (.v (.c (.d (.int .i64 0))))⟩,
    ⟨none, .mov (.v (.c (.d (.nili))))⟩] [(1, 1), (2, 0)] []) (
  .seq (.reg false [⟨none, .mov (.r 0)⟩,
    ⟨none, .lns (.l 0)⟩,
    ⟨none, .mov (.l 0)⟩] [(3, 0)] []) (
  .seq (.seq (.reg false [⟨none, .mov (.v (.c (.d (.bool false))))⟩,
    ⟨some (0, true), .mov (.r 3)⟩,
    ⟨some (1, true), .bin .lss (.v (.c (.d (.int .i64 0)))) (.l 0)⟩,
    ⟨some (2, true), .mov (.l 0)⟩,
    ⟨some (0, true), .mov (.r 3)⟩,
    ⟨some (1, true), .bin .lss (.l 0) (.v (.c (.d (.int .i64 10))))⟩,
    ⟨some (5, true), .pick (.l 2) (.l 0) (.v (.c (.d (.bool false))))⟩,
    ⟨none, .pick (.l 6) (.l 0) (.v (.c (.d (.bool false))))⟩,
    ⟨none, .mov (.l 0)⟩,
    ⟨some (0, false), .mov (.v (.c (.d (.bool true))))⟩,
    ⟨some (0, true), .mov (.r 3)⟩,
    ⟨some (1, true), .bin .lss (.v (.c (.d (.int .i64 0)))) (.l 0)⟩,
    ⟨some (2, true), .mov (.l 0)⟩,
    ⟨some (0, true), .mov (.r 3)⟩,
    ⟨some (1, true), .bin .lss (.l 0) (.v (.c (.d (.int .i64 19))))⟩,
    ⟨some (5, true), .pick (.l 2) (.l 0) (.v (.c (.d (.bool false))))⟩,
    ⟨some (7, false), .pick (.l 6) (.l 0) (.v (.c (.d (.bool false))))⟩,
    ⟨none, .pick (.l 8) (.v (.c (.d (.bool true)))) (.l 0)⟩] [(9, 0)] []) (
  .cond (.r 9) (
  .seq (.reg false [⟨none, .mov (.r 0)⟩,
    ⟨none, .mov (.l 0)⟩] [(4, 0)] []) (
  .seq (.seq (.reg false [⟨none, .mov (.r 0)⟩,
    ⟨none, .ixs (.l 0) (.v (.c (.d (.int .i64 0))))⟩,
    ⟨none, .bin .eql (.l 0) (.v (.c (.d (.int .u8 45))))⟩,
    ⟨none, .mov (.l 0)⟩,
    ⟨some (0, false), .mov (.r 0)⟩,
    ⟨some (1, false), .ixs (.l 0) (.v (.c (.d (.int .i64 0))))⟩,
    ⟨some (2, false), .bin .eql (.l 0) (.v (.c (.d (.int .u8 43))))⟩,
    ⟨none, .pick (.l 3) (.v (.c (.d (.bool true)))) (.l 0)⟩] [(10, 0)] []) (
  .cond (.r 10) (
  .seq (.reg false [⟨none, .mov (.r 0)⟩,
    ⟨none, .sls (.l 0) (some (.v (.c (.d (.int .i64 1))))) none⟩,
    ⟨none, .mov (.l 0)⟩] [(0, 0)] []) (
  .seq (.reg false [⟨none, .mov (.r 0)⟩,
    ⟨none, .lns (.l 0)⟩,
    ⟨none, .bin .lss (.l 0) (.v (.c (.d (.int .i64 1))))⟩] [(11, 0)] []) (
  .cond (.r 11) (
  .seq (.reg false [⟨none, .mki (.v (.c (.d (.int .i64 2))))⟩,
    ⟨none, .mov (.v (.c (.d (.int .i64 0))))⟩,
    ⟨none, .mov (.l 1)⟩] [(1, 1), (2, 0)] []) (
  .ret)) (
  .skip)))) (
  .skip))) (
  .seq (.reg false [⟨none, .mov (.v (.c (.d (.int .i64 0))))⟩] [(5, 0)] []) (
  .seq (.seq (.reg false [⟨none, .mov (.r 0)⟩,
    ⟨none, .s2b (.l 0)⟩,
    ⟨none, .len (.l 0)⟩,
    ⟨none, .mov (.v (.c (.d (.int .i64 0))))⟩] [(12, 2), (13, 1), (14, 0)] []) (
  .block 0 (
  .loop (some [4, 5, 12, 13, 14]) fn246L0))) (
  .seq (.seq (.reg false [⟨none, .mov (.r 4)⟩,
    ⟨none, .ixs (.l 0) (.v (.c (.d (.int .i64 0))))⟩,
    ⟨none, .bin .eql (.l 0) (.v (.c (.d (.int .u8 45))))⟩] [(17, 0)] []) (
  .cond (.r 17) (
  .reg false [⟨none, .mov (.r 5)⟩,
    ⟨none, .un .neg (.l 0)⟩,
    ⟨none, .mov (.l 0)⟩] [(5, 0)] []) (
  .skip))) (
  .seq (.reg false [⟨none, .mov (.r 5)⟩,
    ⟨none, .mov (.l 0)⟩,
    ⟨none, .mov (.v (.c (.d (.nili))))⟩] [(1, 1), (2, 0)] []) (
  .ret))))))) (
  .skip))) (
  .seq (.reg false [⟨none, .mov (.r 0)⟩,
    ⟨none, .vc 290 [(.l 0), (.v (.c (.d (.int .i64 10)))), (.v (.c (.d (.int .i64 0))))]⟩,
    ⟨none, .mov (.l 0)⟩,
    ⟨none, .ext (.l 0) 0⟩,
    ⟨none, .ext (.l 1) 1⟩,
    ⟨none, .mov (.l 1)⟩,
    ⟨none, .mov (.l 1)⟩] [(7, 1), (8, 0)] []) (
  .seq (.reg false [⟨none, .mov (.r 7)⟩,
    ⟨none, .mov (.r 8)⟩,
    ⟨none, .mov (.l 1)⟩,
    ⟨none, .mov (.l 1)⟩] [(1, 1), (2, 0)] []) (
  .ret)))))⟩
def fn249 : Fn := ⟨1, 2, [0, 2], [.r 1],
  .seq (.reg false [⟨none, .mov (.v (.c (.d (.int .u64 0))))⟩] [(1, 0)] []) (
  .seq (.cond (.v (.c (.d (.bool false)))) (
  .seq (.reg true [⟨none, .mov (.r 0)⟩,
    ⟨none, .ixs (.l 0) (.v (.c (.d (.int .i64 0))))⟩,
    ⟨none, .cvi .u64 (.l 0)⟩,
    ⟨none, .mov (.r 0)⟩,
    ⟨none, .ixs (.l 0) (.v (.c (.d (.int .i64 1))))⟩,
    ⟨none, .cvi .u64 (.l 0)⟩,
    ⟨none, .bin .shl (.l 0) (.v (.c (.d (.int .u64 8))))⟩,
    ⟨none, .bin .or (.l 4) (.l 0)⟩,
    ⟨none, .mov (.r 0)⟩,
    ⟨none, .ixs (.l 0) (.v (.c (.d (.int .i64 2))))⟩,
    ⟨none, .cvi .u64 (.l 0)⟩,
    ⟨none, .bin .shl (.l 0) (.v (.c (.d (.int .u64 16))))⟩,
    ⟨none, .bin .or (.l 4) (.l 0)⟩,
    ⟨none, .mov (.r 0)⟩,
    ⟨none, .ixs (.l 0) (.v (.c (.d (.int .i64 3))))⟩,
    ⟨none, .cvi .u64 (.l 0)⟩,
    ⟨none, .bin .shl (.l 0) (.v (.c (.d (.int .u64 24))))⟩,
    ⟨none, .bin .or (.l 4) (.l 0)⟩,
    ⟨none, .mov (.l 0)⟩] [(1, 0)] []) (
  .ret)) (
  .skip)) (
  .seq (.reg true [⟨none, .mov (.r 0)⟩,
    ⟨none, .ixs (.l 0) (.v (.c (.d (.int .i64 0))))⟩,
    ⟨none, .cvi .u64 (.l 0)⟩,
    ⟨none, .mov (.r 0)⟩,
    ⟨none, .ixs (.l 0) (.v (.c (.d (.int .i64 1))))⟩,
    ⟨none, .cvi .u64 (.l 0)⟩,
    ⟨none, .bin .shl (.l 0) (.v (.c (.d (.int .u64 8))))⟩,
    ⟨none, .bin .or (.l 4) (.l 0)⟩,
    ⟨none, .mov (.r 0)⟩,
    ⟨none, .ixs (.l 0) (.v (.c (.d (.int .i64 2))))⟩,
    ⟨none, .cvi .u64 (.l 0)⟩,
    ⟨none, .bin .shl (.l 0) (.v (.c (.d (.int .u64 16))))⟩,
    ⟨none, .bin .or (.l 4) (.l 0)⟩,
    ⟨none, .mov (.r 0)⟩,
    ⟨none, .ixs (.l 0) (.v (.c (.d (.int .i64 3))))⟩,
    ⟨none, .cvi .u64 (.l 0)⟩,
    ⟨none, .bin .shl (.l 0) (.v (.c (.d (.int .u64 24))))⟩,
    ⟨none, .bin .or (.l 4) (.l 0)⟩,
    ⟨none, .mov (.r 0)⟩,
    ⟨none, .ixs (.l 0) (.v (.c (.d (.int .i64 4))))⟩,
    ⟨none, .cvi .u64 (.l 0)⟩,
    ⟨none, .bin .shl (.l 0) (.v (.c (.d (.int .u64 32))))⟩,
    ⟨none, .bin .or (.l 4) (.l 0)⟩,
    ⟨none, .mov (.r 0)⟩,
    ⟨none, .ixs (.l 0) (.v (.c (.d (.int .i64 5))))⟩,
    ⟨none, .cvi .u64 (.l 0)⟩,
    ⟨none, .bin .shl (.l 0) (.v (.c (.d (.int .u64 40))))⟩,
    ⟨none, .bin .or (.l 4) (.l 0)⟩,
    ⟨none, .mov (.r 0)⟩,
    ⟨none, .ixs (.l 0) (.v (.c (.d (.int .i64 6))))⟩,
    ⟨none, .cvi .u64 (.l 0)⟩,
    ⟨none, .bin .shl (.l 0) (.v (.c (.d (.int .u64 48))))⟩,
    ⟨none, .bin .or (.l 4) (.l 0)⟩,
    ⟨none, .mov (.r 0)⟩,
    ⟨none, .ixs (.l 0) (.v (.c (.d (.int .i64 7))))⟩,
    ⟨none, .cvi .u64 (.l 0)⟩,
    ⟨none, .bin .shl (.l 0) (.v (.c (.d (.int .u64 56))))⟩,
    ⟨none, .bin .or (.l 4) (.l 0)⟩,
    ⟨none, .mov (.l 0)⟩] [(1, 0)] []) (
  .ret)))⟩
def fn250 : Fn := ⟨1, 9, [0, 1, 2, 3, 4, 9, 13, 17, 20], [.r 2],
  .seq (.reg false [⟨none, .box (.r 0)⟩,
    ⟨none, .mov (.v (.c (.d (.int .i64 0))))⟩] [(1, 1), (2, 0)] []) (
  .seq (.seq (.reg true [⟨none, .slp 4 1 (.g 8) none none none⟩,
    ⟨none, .fa 0 (.r 1)⟩,
    ⟨none, .ld false 1 (.l 0)⟩,
    ⟨none, .vc 289 [(.l 2), (.l 0)]⟩,
    ⟨none, .un .not (.l 0)⟩] [(5, 0)] []) (
  .cond (.r 5) (
  .seq (.reg false [⟨none, .mov (.v (.c (.d (.int .i64 9))))⟩] [(2, 0)] []) (
  .ret)) (
  .skip))) (
  .seq (.seq (.reg false [⟨none, .ld true 2 (.r 1)⟩,
    ⟨none, .vc 291 [(.l 0)]⟩,
    ⟨none, .mov (.l 0)⟩] [(3, 0)] []) (
  .seq (.reg false [⟨none, .mov (.r 3)⟩,
    ⟨none, .bin .neq (.l 0) (.v (.c (.d (.int .i64 0))))⟩] [(6, 0)] []) (
  .cond (.r 6) (
  .seq (.reg false [⟨none, .mov (.r 3)⟩,
    ⟨none, .mov (.l 0)⟩] [(2, 0)] []) (
  .ret)) (
  .skip)))) (
  .seq (.seq (.reg false [⟨none, .ld true 2 (.r 1)⟩,
    ⟨none, .vc 292 [(.l 0)]⟩,
    ⟨none, .mov (.l 0)⟩] [(4, 0)] []) (
  .block 0 (
  .seq (.reg false [⟨none, .mov (.r 4)⟩,
    ⟨none, .bin .eql (.l 0) (.v (.c (.d (.int .i64 0))))⟩,
    ⟨none, .mov (.l 0)⟩] [(7, 0)] []) (
  .cond (.r 7) (
  .seq (.reg false [⟨none, .mov (.v (.c (.d (.int .i64 17))))⟩] [(2, 0)] []) (
  .ret)) (
  .seq (.reg false [⟨none, .mov (.r 4)⟩,
    ⟨none, .bin .gtr (.l 0) (.v (.c (.d (.int .i64 200))))⟩,
    ⟨none, .mov (.l 0)⟩] [(8, 0)] []) (
  .cond (.r 8) (
  .seq (.reg false [⟨none, .mov (.v (.c (.d (.int .i64 3))))⟩] [(2, 0)] []) (
  .ret)) (
  .skip))))))) (
  .seq (.reg false [⟨none, .mov (.v (.c (.d (.int .i64 0))))⟩] [(2, 0)] []) (
  .ret)))))⟩
def fn251 : Fn := ⟨1, 7, [0, 1, 2, 3, 4, 5, 12], [.cell 2 5 true, .r 3],
  .seq (.reg false [⟨none, .box (.r 0)⟩,
    ⟨none, .new [.int .u8 0, .bool false, .int .u32 0, .nils, .nils]⟩,
    ⟨none, .mov (.v (.c (.d (.int .i64 0))))⟩] [(1, 2), (2, 1), (3, 0)] []) (
  .seq (.reg false [⟨none, .ld true 2 (.r 1)⟩,
    ⟨none, .vc 293 [(.l 0)]⟩,
    ⟨none, .mov (.l 0)⟩,
    ⟨none, .ext (.l 0) 0⟩,
    ⟨none, .ext (.l 1) 1⟩,
    ⟨none, .mov (.l 1)⟩,
    ⟨none, .mov (.l 1)⟩] [(4, 1), (5, 0)] []) (
  .seq (.seq (.reg false [⟨none, .mov (.r 5)⟩,
    ⟨none, .bin .neq (.l 0) (.v (.c (.d (.int .i64 0))))⟩] [(6, 0)] []) (
  .cond (.r 6) (
  .seq (.reg false [⟨none, .bld [.int .u8 0, .bool false, .int .u32 0, .nils, .nils] []⟩,
    ⟨none, .mov (.r 5)⟩,
    ⟨none, .st 5 (.r 2) (.l 1)⟩,
    ⟨none, .mov (.l 1)⟩] [(3, 0)] []) (
  .ret)) (
  .skip))) (
  .seq (.reg false [⟨none, .fa 0 (.r 1)⟩,
    ⟨none, .ld false 1 (.l 0)⟩,
    ⟨none, .bld [.int .u8 0, .bool false, .int .u32 0] [(2, 1, (.l 0))]⟩,
    ⟨none, .mov (.r 4)⟩,
    ⟨none, .bld [.int .u8 0, .bool false, .int .u32 0, .nils, .nils] [(0, 3, (.l 1)), (3, 1, (.l 0))]⟩,
    ⟨none, .st 5 (.r 2) (.l 0)⟩,
    ⟨none, .mov (.v (.c (.d (.int .i64 0))))⟩] [(3, 0)] []) (
  .ret))))⟩
def fn252L0 : I := .seq (.seq (.reg false [⟨none, .mov (.r 4)⟩,
    ⟨none, .vc 294 [(.l 0)]⟩] [(7, 0)] []) (
  .cond (.r 7) (
  .skip) (
  .exit 2))) (
  .block 3 (
  .reg false [⟨none, .mov (.r 4)⟩,
    ⟨none, .slc 1 (.l 0) (some (.v (.c (.d (.int .i64 1))))) none none⟩,
    ⟨none, .mov (.l 0)⟩] [(4, 0)] []))
def fn252L1 : I := .seq (.reg false [⟨none, .bin .lss (.r 5) (.v (.c (.d (.int .i64 8))))⟩] [(6, 0)] []) (
  .seq (.cond (.r 6) (
  .skip) (
  .exit 0)) (
  .seq (.block 1 (
  .seq (.reg false [⟨none, .mov (.r 5)⟩,
    ⟨none, .mov (.l 0)⟩] [(3, 0)] []) (
  .reg false [⟨none, .mov (.r 3)⟩,
    ⟨none, .bin .sub (.v (.c (.d (.int .i64 7)))) (.l 0)⟩,
    ⟨none, .mov (.r 0)⟩,
    ⟨none, .mov (.r 3)⟩,
    ⟨none, .bin .mul (.v (.c (.d (.int .i64 8)))) (.l 0)⟩,
    ⟨none, .bin .shr (.l 2) (.l 0)⟩,
    ⟨none, .cvi .u8 (.l 0)⟩,
    ⟨none, .ixp 8 1 (.r 2) (.l 5)⟩,
    ⟨none, .st 1 (.l 0) (.l 1)⟩] [] []))) (
  .reg false [⟨none, .bin .add (.r 5) (.v (.c (.d (.int .i64 1))))⟩,
    ⟨none, .mov (.l 0)⟩] [(5, 0)] [])))
def fn252 : Fn := ⟨1, 8, [0, 2, 3, 4, 5, 6, 7, 20], [.r 1],
  .seq (.reg false [⟨none, .mov (.v (.c (.d (.nils))))⟩] [(1, 0)] []) (
  .seq (.reg false [⟨none, .new [.int .u8 0, .int .u8 0, .int .u8 0, .int .u8 0, .int .u8 0, .int .u8 0, .int .u8 0, .int .u8 0]⟩] [(2, 0)] []) (
  .seq (.seq (.reg false [⟨none, .mov (.v (.c (.d (.int .i64 0))))⟩] [(5, 0)] []) (
  .block 0 (
  .loop (some [0, 2, 5]) fn252L1))) (
  .seq (.reg false [⟨none, .slp 8 1 (.r 2) none none none⟩,
    ⟨none, .mov (.l 0)⟩] [(4, 0)] []) (
  .seq (.block 2 (
  .loop (some [4]) fn252L0)) (
  .seq (.reg false [⟨none, .mov (.r 4)⟩,
    ⟨none, .hc (.v (.c (.d (.fn 200 [] [])))) [(.l 0)]⟩,
    ⟨none, .mov (.l 0)⟩] [(1, 0)] []) (
  .ret))))))⟩
def fn253 : Fn := ⟨1, 2, [0, 2], [.r 1],
  .seq (.reg false [⟨none, .mov (.v (.c (.d (.nils))))⟩] [(1, 0)] []) (
  .seq (.reg false [⟨none, .mov (.r 0)⟩,
    ⟨none, .mov (.r 0)⟩,
    ⟨none, .len (.l 0)⟩,
    ⟨none, .mov (.r 0)⟩,
    ⟨none, .len (.l 0)⟩,
    ⟨none, .slc 5 (.l 4) none (some (.l 2)) (some (.l 0))⟩,
    ⟨none, .mov (.l 0)⟩] [(1, 0)] []) (
  .ret))⟩
def fn254L0 : I := .seq (.seq (.reg false [⟨none, .mov (.r 2)⟩,
    ⟨none, .bin .gtr (.l 0) (.v (.c (.d (.int .i64 0))))⟩] [(4, 0)] []) (
  .cond (.r 4) (
  .skip) (
  .exit 2))) (
  .seq (.block 3 (
  .seq (.reg false [⟨none, .mov (.r 0)⟩,
    ⟨none, .ld false 1 (.r 1)⟩,
    ⟨none, .mov (.r 2)⟩,
    ⟨none, .bin .shr (.l 1) (.l 0)⟩,
    ⟨none, .cvi .u8 (.l 0)⟩,
    ⟨none, .bin .or (.l 0) (.v (.c (.d (.int .u8 128))))⟩,
    ⟨none, .hc (.l 5) [(.l 0)]⟩,
    ⟨none, .un .not (.l 0)⟩] [(5, 0)] []) (
  .cond (.r 5) (
  .ret) (
  .skip)))) (
  .reg false [⟨none, .mov (.r 2)⟩,
    ⟨none, .bin .sub (.l 0) (.v (.c (.d (.int .i64 7))))⟩,
    ⟨none, .mov (.l 0)⟩] [(2, 0)] []))
def fn254L1 : I := .seq (.seq (.reg false [⟨none, .mov (.r 2)⟩,
    ⟨none, .bin .gtr (.l 0) (.v (.c (.d (.int .i64 0))))⟩,
    ⟨none, .mov (.l 0)⟩,
    ⟨some (0, true), .ld false 1 (.r 1)⟩,
    ⟨some (1, true), .mov (.r 2)⟩,
    ⟨some (2, true), .bin .shr (.l 1) (.l 0)⟩,
    ⟨some (3, true), .bin .eql (.l 0) (.v (.c (.d (.int .u32 0))))⟩,
    ⟨none, .pick (.l 4) (.l 0) (.v (.c (.d (.bool false))))⟩] [(3, 0)] []) (
  .cond (.r 3) (
  .skip) (
  .exit 0))) (
  .block 1 (
  .reg false [⟨none, .mov (.r 2)⟩,
    ⟨none, .bin .sub (.l 0) (.v (.c (.d (.int .i64 7))))⟩,
    ⟨none, .mov (.l 0)⟩] [(2, 0)] []))
def fn254 : Fn := ⟨2, 6, [0, 1, 3, 11, 15, 25], [],
  .seq (.reg false [⟨none, .mov (.v (.c (.d (.int .i64 28))))⟩] [(2, 0)] []) (
  .seq (.block 0 (
  .loop (some [0, 1, 2]) fn254L1)) (
  .seq (.block 2 (
  .loop (some [0, 1, 2]) fn254L0)) (
  .reg false [⟨none, .mov (.r 0)⟩,
    ⟨none, .ld false 1 (.r 1)⟩,
    ⟨none, .cvi .u8 (.l 0)⟩,
    ⟨none, .bin .and (.l 0) (.v (.c (.d (.int .u8 127))))⟩,
    ⟨none, .hc (.l 3) [(.l 0)]⟩] [] [])))⟩
def fn260L0 : I := .seq (.reg false [⟨none, .bin .lss (.r 12) (.r 11)⟩] [(13, 0)] []) (
  .seq (.cond (.r 13) (
  .skip) (
  .exit 0)) (
  .seq (.block 1 (
  .seq (.reg false [⟨none, .ixa 5 (.r 10) (.r 12)⟩,
    ⟨none, .ld true 5 (.l 0)⟩,
    ⟨none, .pre⟩,
    ⟨none, .ini 5 (.l 1)⟩] [(7, 0)] []) (
  .seq (.reg false [⟨none, .ld false 1 (.r 3)⟩,
    ⟨none, .ld true 5 (.r 7)⟩,
    ⟨none, .mov (.r 1)⟩,
    ⟨none, .bin .add (.l 0) (.v (.c (.d (.int .i64 1))))⟩,
    ⟨none, .hc (.l 3) [(.l 2), (.l 0)]⟩,
    ⟨none, .mov (.l 0)⟩] [(8, 0)] []) (
  .seq (.reg false [⟨none, .mov (.r 8)⟩,
    ⟨none, .bin .neq (.l 0) (.v (.c (.d (.int .i64 0))))⟩] [(14, 0)] []) (
  .cond (.r 14) (
  .seq (.reg false [⟨none, .mov (.r 8)⟩,
    ⟨none, .mov (.l 0)⟩] [(5, 0)] []) (
  .ret)) (
  .skip)))))) (
  .reg false [⟨none, .bin .add (.r 12) (.v (.c (.d (.int .i64 1))))⟩,
    ⟨none, .mov (.l 0)⟩] [(12, 0)] [])))
def fn260 : Fn := ⟨4, 15, [0, 1, 2, 3, 4, 6, 7, 9, 10, 16, 19, 20, 21, 22, 31], [.r 5],
  .seq (.reg false [⟨none, .box (.r 0)⟩,
    ⟨none, .mov (.v (.c (.d (.int .i64 0))))⟩] [(4, 1), (5, 0)] []) (
  .seq (.seq (.reg false [⟨none, .ld false 1 (.r 2)⟩,
    ⟨none, .ld true 5 (.r 4)⟩,
    ⟨none, .mov (.r 1)⟩,
    ⟨none, .hc (.l 2) [(.l 1), (.l 0)]⟩,
    ⟨none, .mov (.l 0)⟩] [(6, 0)] []) (
  .seq (.reg false [⟨none, .mov (.r 6)⟩,
    ⟨none, .bin .neq (.l 0) (.v (.c (.d (.int .i64 0))))⟩] [(9, 0)] []) (
  .cond (.r 9) (
  .seq (.reg false [⟨none, .mov (.r 6)⟩,
    ⟨none, .mov (.l 0)⟩] [(5, 0)] []) (
  .ret)) (
  .skip)))) (
  .seq (.seq (.reg false [⟨none, .fa 4 (.r 4)⟩,
    ⟨none, .ld false 1 (.l 0)⟩,
    ⟨none, .len (.l 0)⟩,
    ⟨none, .mov (.v (.c (.d (.int .i64 0))))⟩] [(10, 2), (11, 1), (12, 0)] []) (
  .block 0 (
  .loop (some [1, 3, 10, 11, 12]) fn260L0))) (
  .seq (.reg false [⟨none, .mov (.v (.c (.d (.int .i64 0))))⟩] [(5, 0)] []) (
  .ret))))⟩
def fn261L0 : I := .seq (.seq (.reg false [⟨none, .mov (.r 2)⟩,
    ⟨none, .bin .geq (.l 0) (.v (.c (.d (.int .i64 0))))⟩] [(5, 0)] []) (
  .cond (.r 5) (
  .skip) (
  .exit 2))) (
  .seq (.block 3 (
  .seq (.reg false [⟨none, .ld false 1 (.r 1)⟩,
    ⟨none, .mov (.r 2)⟩,
    ⟨none, .bin .shr (.l 1) (.l 0)⟩,
    ⟨none, .cvi .u8 (.l 0)⟩,
    ⟨none, .bin .and (.l 0) (.v (.c (.d (.int .u8 127))))⟩,
    ⟨none, .mov (.l 0)⟩] [(3, 0)] []) (
  .seq (.seq (.reg false [⟨none, .mov (.r 2)⟩,
    ⟨none, .bin .gtr (.l 0) (.v (.c (.d (.int .i64 0))))⟩] [(6, 0)] []) (
  .cond (.r 6) (
  .reg false [⟨none, .mov (.r 3)⟩,
    ⟨none, .bin .or (.l 0) (.v (.c (.d (.int .u8 128))))⟩,
    ⟨none, .mov (.l 0)⟩] [(3, 0)] []) (
  .skip))) (
  .seq (.reg false [⟨none, .mov (.r 0)⟩,
    ⟨none, .mov (.r 3)⟩,
    ⟨none, .hc (.l 1) [(.l 0)]⟩,
    ⟨none, .un .not (.l 0)⟩] [(7, 0)] []) (
  .cond (.r 7) (
  .ret) (
  .skip)))))) (
  .reg false [⟨none, .mov (.r 2)⟩,
    ⟨none, .bin .sub (.l 0) (.v (.c (.d (.int .i64 7))))⟩,
    ⟨none, .mov (.l 0)⟩] [(2, 0)] []))
def fn261L1 : I := .seq (.seq (.reg false [⟨none, .ld false 1 (.r 1)⟩,
    ⟨none, .mov (.r 2)⟩,
    ⟨none, .bin .add (.l 0) (.v (.c (.d (.int .i64 7))))⟩,
    ⟨none, .bin .shr (.l 2) (.l 0)⟩,
    ⟨none, .bin .gtr (.l 0) (.v (.c (.d (.int .u32 0))))⟩] [(4, 0)] []) (
  .cond (.r 4) (
  .skip) (
  .exit 0))) (
  .block 1 (
  .reg false [⟨none, .mov (.r 2)⟩,
    ⟨none, .bin .add (.l 0) (.v (.c (.d (.int .i64 7))))⟩,
    ⟨none, .mov (.l 0)⟩] [(2, 0)] []))
def fn261 : Fn := ⟨2, 8, [0, 1, 3, 4, 9, 13, 22, 28], [],
  .seq (.reg false [⟨none, .mov (.v (.c (.d (.int .i64 0))))⟩] [(2, 0)] []) (
  .seq (.block 0 (
  .loop (some [0, 1, 2]) fn261L1)) (
  .block 2 (
  .loop (some [0, 1, 2]) fn261L0)))⟩
def fn273 : Fn := ⟨1, 2, [0, 2], [.r 1],
  .seq (.reg false [⟨none, .mov (.v (.c (.d (.int .u8 0))))⟩] [(1, 0)] []) (
  .seq (.reg false [⟨none, .mov (.r 0)⟩,
    ⟨none, .bin .or (.l 0) (.v (.c (.d (.int .u8 32))))⟩,
    ⟨none, .mov (.l 0)⟩] [(1, 0)] []) (
  .ret))⟩
def fn274L0 : I := .seq (.seq (.reg false [⟨none, .mov (.r 3)⟩,
    ⟨none, .mov (.r 0)⟩,
    ⟨none, .lns (.l 0)⟩,
    ⟨none, .bin .lss (.l 2) (.l 0)⟩] [(7, 0)] []) (
  .cond (.r 7) (
  .skip) (
  .exit 0))) (
  .seq (.block 1 (
  .seq (.seq (.reg false [⟨none, .mov (.r 0)⟩,
    ⟨none, .mov (.r 3)⟩,
    ⟨none, .ixs (.l 1) (.l 0)⟩,
    ⟨none, .bin .leq (.v (.c (.d (.int .u8 48)))) (.l 0)⟩,
    ⟨none, .mov (.l 0)⟩,
    ⟨some (0, true), .mov (.r 0)⟩,
    ⟨some (1, true), .mov (.r 3)⟩,
    ⟨some (2, true), .ixs (.l 1) (.l 0)⟩,
    ⟨some (3, true), .bin .leq (.l 0) (.v (.c (.d (.int .u8 57))))⟩,
    ⟨none, .pick (.l 4) (.l 0) (.v (.c (.d (.bool false))))⟩,
    ⟨none, .mov (.l 0)⟩,
    ⟨some (0, false), .mov (.r 4)⟩,
    ⟨some (1, false), .mov (.l 0)⟩,
    ⟨some (0, true), .mov (.r 0)⟩,
    ⟨some (1, true), .mov (.r 3)⟩,
    ⟨some (2, true), .ixs (.l 1) (.l 0)⟩,
    ⟨some (3, true), .vc 273 [(.l 0)]⟩,
    ⟨some (4, true), .bin .leq (.v (.c (.d (.int .u8 97)))) (.l 0)⟩,
    ⟨some (7, false), .pick (.l 5) (.l 0) (.v (.c (.d (.bool false))))⟩,
    ⟨some (8, false), .mov (.l 0)⟩,
    ⟨some (0, true), .mov (.r 0)⟩,
    ⟨some (1, true), .mov (.r 3)⟩,
    ⟨some (2, true), .ixs (.l 1) (.l 0)⟩,
    ⟨some (3, true), .vc 273 [(.l 0)]⟩,
    ⟨some (4, true), .bin .leq (.l 0) (.v (.c (.d (.int .u8 102))))⟩,
    ⟨some (14, false), .pick (.l 5) (.l 0) (.v (.c (.d (.bool false))))⟩,
    ⟨none, .pick (.l 15) (.v (.c (.d (.bool true)))) (.l 0)⟩] [(8, 0)] []) (
  .cond (.r 8) (
  .seq (.reg false [⟨none, .mov (.v (.c (.d (.int .i32 48))))⟩] [(2, 0)] []) (
  .exit 1)) (
  .skip))) (
  .seq (.seq (.reg false [⟨none, .mov (.r 0)⟩,
    ⟨none, .mov (.r 3)⟩,
    ⟨none, .ixs (.l 1) (.l 0)⟩,
    ⟨none, .bin .eql (.l 0) (.v (.c (.d (.int .u8 95))))⟩] [(9, 0)] []) (
  .cond (.r 9) (
  .seq (.seq (.reg false [⟨none, .mov (.r 2)⟩,
    ⟨none, .bin .neq (.l 0) (.v (.c (.d (.int .i32 48))))⟩] [(10, 0)] []) (
  .cond (.r 10) (
  .seq (.reg false [⟨none, .mov (.v (.c (.d (.bool false))))⟩] [(1, 0)] []) (
  .ret)) (
  .skip))) (
  .seq (.reg false [⟨none, .mov (.v (.c (.d (.int .i32 95))))⟩] [(2, 0)] []) (
  .exit 1))) (
  .skip))) (
  .seq (.seq (.reg false [⟨none, .mov (.r 2)⟩,
    ⟨none, .bin .eql (.l 0) (.v (.c (.d (.int .i32 95))))⟩] [(11, 0)] []) (
  .cond (.r 11) (
  .seq (.reg false [⟨none, .mov (.v (.c (.d (.bool false))))⟩] [(1, 0)] []) (
  .ret)) (
  .skip))) (
  .reg false [⟨none, .mov (.v (.c (.d (.int .i32 33))))⟩] [(2, 0)] []))))) (
  .reg false [⟨none, .mov (.r 3)⟩,
    ⟨none, .bin .add (.l 0) (.v (.c (.d (.int .i64 1))))⟩,
    ⟨none, .mov (.l 0)⟩] [(3, 0)] []))
def fn274 : Fn := ⟨1, 12, [0, 2, 3, 4, 5, 18, 46, 54, 83, 87, 89, 91], [.r 1],
  .seq (.reg false [⟨none, .mov (.v (.c (.d (.bool false))))⟩] [(1, 0)] []) (
  .seq (.reg false [⟨none, .mov (.v (.c (.d (.int .i32 94))))⟩] [(2, 0)] []) (
  .seq (.reg false [⟨none, .mov (.v (.c (.d (.int .i64 0))))⟩] [(3, 0)] []) (
  .seq (.seq (.reg false [⟨none, .mov (.r 0)⟩,
    ⟨none, .lns (.l 0)⟩,
    ⟨none, .bin .geq (.l 0) (.v (.c (.d (.int .i64 1))))⟩,
    ⟨none, .mov (.l 0)⟩,
    ⟨some (0, true), .mov (.r 0)⟩,
    ⟨some (1, true), .ixs (.l 0) (.v (.c (.d (.int .i64 0))))⟩,
    ⟨some (2, true), .bin .eql (.l 0) (.v (.c (.d (.int .u8 45))))⟩,
    ⟨some (3, true), .mov (.l 0)⟩,
    ⟨some (0, false), .mov (.r 0)⟩,
    ⟨some (1, false), .ixs (.l 0) (.v (.c (.d (.int .i64 0))))⟩,
    ⟨some (2, false), .bin .eql (.l 0) (.v (.c (.d (.int .u8 43))))⟩,
    ⟨some (7, true), .pick (.l 3) (.v (.c (.d (.bool true)))) (.l 0)⟩,
    ⟨none, .pick (.l 8) (.l 0) (.v (.c (.d (.bool false))))⟩] [(5, 0)] []) (
  .cond (.r 5) (
  .reg false [⟨none, .mov (.r 0)⟩,
    ⟨none, .sls (.l 0) (some (.v (.c (.d (.int .i64 1))))) none⟩,
    ⟨none, .mov (.l 0)⟩] [(0, 0)] []) (
  .skip))) (
  .seq (.reg false [⟨none, .mov (.v (.c (.d (.bool false))))⟩] [(4, 0)] []) (
  .seq (.seq (.reg false [⟨none, .mov (.r 0)⟩,
    ⟨none, .lns (.l 0)⟩,
    ⟨none, .bin .geq (.l 0) (.v (.c (.d (.int .i64 2))))⟩,
    ⟨none, .mov (.l 0)⟩,
    ⟨some (0, true), .mov (.r 0)⟩,
    ⟨some (1, true), .ixs (.l 0) (.v (.c (.d (.int .i64 0))))⟩,
    ⟨some (2, true), .bin .eql (.l 0) (.v (.c (.d (.int .u8 48))))⟩,
    ⟨none, .pick (.l 3) (.l 0) (.v (.c (.d (.bool false))))⟩,
    ⟨none, .mov (.l 0)⟩,
    ⟨some (0, true), .mov (.r 0)⟩,
    ⟨some (1, true), .ixs (.l 0) (.v (.c (.d (.int .i64 1))))⟩,
    ⟨some (2, true), .vc 273 [(.l 0)]⟩,
    ⟨some (3, true), .bin .eql (.l 0) (.v (.c (.d (.int .u8 98))))⟩,
    ⟨some (4, true), .mov (.l 0)⟩,
    ⟨some (0, false), .mov (.r 0)⟩,
    ⟨some (1, false), .ixs (.l 0) (.v (.c (.d (.int .i64 1))))⟩,
    ⟨some (2, false), .vc 273 [(.l 0)]⟩,
    ⟨some (3, false), .bin .eql (.l 0) (.v (.c (.d (.int .u8 111))))⟩,
    ⟨some (9, true), .pick (.l 4) (.v (.c (.d (.bool true)))) (.l 0)⟩,
    ⟨some (10, true), .mov (.l 0)⟩,
    ⟨some (0, false), .mov (.r 0)⟩,
    ⟨some (1, false), .ixs (.l 0) (.v (.c (.d (.int .i64 1))))⟩,
    ⟨some (2, false), .vc 273 [(.l 0)]⟩,
    ⟨some (3, false), .bin .eql (.l 0) (.v (.c (.d (.int .u8 120))))⟩,
    ⟨some (15, true), .pick (.l 4) (.v (.c (.d (.bool true)))) (.l 0)⟩,
    ⟨none, .pick (.l 16) (.l 0) (.v (.c (.d (.bool false))))⟩] [(6, 0)] []) (
  .cond (.r 6) (
  .seq (.reg false [⟨none, .mov (.v (.c (.d (.int .i64 2))))⟩] [(3, 0)] []) (
  .seq (.reg false [⟨none, .mov (.v (.c (.d (.int .i32 48))))⟩] [(2, 0)] []) (
  .reg false [⟨none, .mov (.r 0)⟩,
    ⟨none, .ixs (.l 0) (.v (.c (.d (.int .i64 1))))⟩,
    ⟨none, .vc 273 [(.l 0)]⟩,
    ⟨none, .bin .eql (.l 0) (.v (.c (.d (.int .u8 120))))⟩,
    ⟨none, .mov (.l 0)⟩] [(4, 0)] []))) (
  .skip))) (
  .seq (.block 0 (
  .loop (some [0, 2, 3, 4]) fn274L0)) (
  .seq (.reg false [⟨none, .mov (.r 2)⟩,
    ⟨none, .bin .neq (.l 0) (.v (.c (.d (.int .i32 95))))⟩,
    ⟨none, .mov (.l 0)⟩] [(1, 0)] []) (
  .ret))))))))⟩
def fn275 : Fn := ⟨2, 3, [0, 1, 4], [.r 2],
  .seq (.reg false [⟨none, .mov (.v (.c (.d (.nilp))))⟩] [(2, 0)] []) (
  .seq (.reg true [⟨none, .mov (.r 0)⟩,
    ⟨none, .mov (.r 1)⟩,
    ⟨none, .vc 300 [(.l 0)]⟩,
    ⟨none, .ld false 1 (.g 9)⟩,
    ⟨none, .bld [.str [], .str [], .nili] [(0, 1, (.l 3)), (1, 1, (.l 1)), (2, 1, (.l 0))]⟩,
    ⟨none, .box (.l 0)⟩,
    ⟨none, .mov (.l 0)⟩] [(2, 0)] []) (
  .ret))⟩
def fn276 : Fn := ⟨2, 3, [0, 1, 4], [.r 2],
  .seq (.reg false [⟨none, .mov (.v (.c (.d (.nilp))))⟩] [(2, 0)] []) (
  .seq (.reg true [⟨none, .mov (.r 0)⟩,
    ⟨none, .mov (.r 1)⟩,
    ⟨none, .vc 300 [(.l 0)]⟩,
    ⟨none, .ld false 1 (.g 10)⟩,
    ⟨none, .bld [.str [], .str [], .nili] [(0, 1, (.l 3)), (1, 1, (.l 1)), (2, 1, (.l 0))]⟩,
    ⟨none, .box (.l 0)⟩,
    ⟨none, .mov (.l 0)⟩] [(2, 0)] []) (
  .ret))⟩
def fn277 : Fn := ⟨3, 4, [0, 1, 2, 6], [.r 3],
  .seq (.reg false [⟨none, .mov (.v (.c (.d (.nilp))))⟩] [(3, 0)] []) (
  .seq (.reg false [⟨none, .mov (.r 0)⟩,
    ⟨none, .mov (.r 1)⟩,
    ⟨none, .vc 300 [(.l 0)]⟩,
    ⟨none, .mov (.r 2)⟩,
    ⟨none, .pc 129 [(.l 0)]⟩,
    ⟨none, .bin .add (.v (.c (.d (.str [105, 110, 118, 97, 108, 105, 100, 32, 98, 97, 115, 101, 32])))) (.l 0)⟩,
    ⟨none, .vc 301 [(.l 0)]⟩,
    ⟨none, .bld [.str [], .str [], .nili] [(0, 1, (.l 6)), (1, 1, (.l 4)), (2, 1, (.l 0))]⟩,
    ⟨none, .box (.l 0)⟩,
    ⟨none, .mov (.l 0)⟩] [(3, 0)] []) (
  .ret))⟩
def fn278 : Fn := ⟨3, 4, [0, 1, 2, 6], [.r 3],
  .seq (.reg false [⟨none, .mov (.v (.c (.d (.nilp))))⟩] [(3, 0)] []) (
  .seq (.reg false [⟨none, .mov (.r 0)⟩,
    ⟨none, .mov (.r 1)⟩,
    ⟨none, .vc 300 [(.l 0)]⟩,
    ⟨none, .mov (.r 2)⟩,
    ⟨none, .pc 129 [(.l 0)]⟩,
    ⟨none, .bin .add (.v (.c (.d (.str [105, 110, 118, 97, 108, 105, 100, 32, 98, 105, 116, 32, 115, 105, 122, 101, 32])))) (.l 0)⟩,
    ⟨none, .vc 301 [(.l 0)]⟩,
    ⟨none, .bld [.str [], .str [], .nili] [(0, 1, (.l 6)), (1, 1, (.l 4)), (2, 1, (.l 0))]⟩,
    ⟨none, .box (.l 0)⟩,
    ⟨none, .mov (.l 0)⟩] [(3, 0)] []) (
  .ret))⟩
def fn282 : Fn := ⟨1, 2, [0, 2], [.r 1],
  .seq (.reg false [⟨none, .mov (.v (.c (.d (.nils))))⟩] [(1, 0)] []) (
  .seq (.reg false [⟨none, .mov (.r 0)⟩,
    ⟨none, .mov (.r 0)⟩,
    ⟨none, .len (.l 0)⟩,
    ⟨none, .mov (.r 0)⟩,
    ⟨none, .len (.l 0)⟩,
    ⟨none, .slc 1 (.l 4) none (some (.l 2)) (some (.l 0))⟩,
    ⟨none, .mov (.l 0)⟩] [(1, 0)] []) (
  .ret))⟩
def fn283 : Fn := ⟨1, 7, [0, 1, 2, 3, 4, 5, 11], [.cell 2 3 true, .r 3],
  .seq (.reg false [⟨none, .box (.r 0)⟩,
    ⟨none, .new [.int .u32 0, .nilf, .nilf]⟩,
    ⟨none, .mov (.v (.c (.d (.bool false))))⟩] [(1, 2), (2, 1), (3, 0)] []) (
  .seq (.reg false [⟨none, .vc 303 []⟩,
    ⟨none, .mov (.l 0)⟩] [(4, 0)] []) (
  .seq (.reg false [⟨none, .mov (.r 4)⟩,
    ⟨none, .mkf 305 [] [(.r 1)]⟩,
    ⟨none, .vc 304 [(.l 1), (.l 0)]⟩,
    ⟨none, .mov (.l 0)⟩] [(5, 0)] []) (
  .seq (.seq (.reg false [⟨none, .mov (.r 5)⟩,
    ⟨none, .bin .lss (.l 0) (.v (.c (.d (.int .i64 0))))⟩] [(6, 0)] []) (
  .cond (.r 6) (
  .seq (.reg false [⟨none, .bld [.int .u32 0, .nilf, .nilf] []⟩,
    ⟨none, .st 3 (.r 2) (.l 0)⟩,
    ⟨none, .mov (.v (.c (.d (.bool false))))⟩] [(3, 0)] []) (
  .ret)) (
  .skip))) (
  .seq (.reg false [⟨none, .mov (.r 4)⟩,
    ⟨none, .mov (.r 5)⟩,
    ⟨none, .ixa 3 (.l 1) (.l 0)⟩,
    ⟨none, .ld true 3 (.l 0)⟩,
    ⟨none, .st 3 (.r 2) (.l 0)⟩,
    ⟨none, .mov (.v (.c (.d (.bool true))))⟩] [(3, 0)] []) (
  .ret)))))⟩
def fn284 : Fn := ⟨2, 13, [0, 1, 4, 5, 6, 7, 8, 9, 10, 16, 20, 37, 46], [.cell 2 2 true, .r 3],
  .seq (.reg false [⟨none, .new [.int .u32 0, .str []]⟩,
    ⟨none, .mov (.v (.c (.d (.int .i64 0))))⟩] [(2, 1), (3, 0)] []) (
  .seq (.reg false [⟨none, .mov (.r 0)⟩,
    ⟨none, .vc 283 [(.l 0)]⟩,
    ⟨none, .mov (.l 0)⟩,
    ⟨none, .ext (.l 0) 0⟩,
    ⟨none, .ext (.l 1) 1⟩,
    ⟨none, .pre⟩,
    ⟨none, .ini 3 (.l 2)⟩,
    ⟨none, .mov (.l 2)⟩] [(4, 1), (5, 0)] []) (
  .seq (.block 0 (
  .seq (.reg false [⟨none, .mov (.r 5)⟩,
    ⟨none, .un .not (.l 0)⟩,
    ⟨none, .mov (.l 0)⟩] [(9, 0)] []) (
  .cond (.r 9) (
  .seq (.reg false [⟨none, .bld [.int .u32 0, .str []] []⟩,
    ⟨none, .st 2 (.r 2) (.l 0)⟩,
    ⟨none, .mov (.v (.c (.d (.int .i64 9))))⟩] [(3, 0)] []) (
  .ret)) (
  .seq (.reg false [⟨none, .mov (.r 1)⟩,
    ⟨none, .len (.l 0)⟩,
    ⟨none, .bin .gtr (.l 0) (.v (.c (.d (.int .i64 131072))))⟩,
    ⟨none, .mov (.l 0)⟩] [(10, 0)] []) (
  .cond (.r 10) (
  .seq (.reg false [⟨none, .bld [.int .u32 0, .str []] []⟩,
    ⟨none, .st 2 (.r 2) (.l 0)⟩,
    ⟨none, .mov (.v (.c (.d (.int .i64 3))))⟩] [(3, 0)] []) (
  .ret)) (
  .skip)))))) (
  .seq (.reg false [⟨none, .mov (.r 0)⟩,
    ⟨none, .mov (.r 1)⟩,
    ⟨none, .vc 306 [(.l 1), (.l 0)]⟩,
    ⟨none, .mov (.l 0)⟩,
    ⟨none, .ext (.l 0) 0⟩,
    ⟨none, .ext (.l 1) 1⟩,
    ⟨none, .mov (.l 1)⟩,
    ⟨none, .mov (.l 1)⟩] [(6, 1), (7, 0)] []) (
  .seq (.seq (.reg false [⟨none, .mov (.r 7)⟩,
    ⟨none, .un .not (.l 0)⟩,
    ⟨none, .mov (.l 0)⟩,
    ⟨some (0, false), .mov (.r 6)⟩,
    ⟨some (1, false), .mkf 308 [] [(.r 4)]⟩,
    ⟨some (2, false), .vc 307 [(.l 1), (.l 0)]⟩,
    ⟨none, .pick (.l 3) (.v (.c (.d (.bool true)))) (.l 0)⟩] [(11, 0)] []) (
  .cond (.r 11) (
  .seq (.reg false [⟨none, .bld [.int .u32 0, .str []] []⟩,
    ⟨none, .st 2 (.r 2) (.l 0)⟩,
    ⟨none, .mov (.v (.c (.d (.int .i64 11))))⟩] [(3, 0)] []) (
  .ret)) (
  .skip))) (
  .seq (.bad) (
  .seq (.seq (.reg false [⟨none, .fa 1 (.r 8)⟩,
    ⟨none, .ld false 1 (.l 0)⟩,
    ⟨none, .lns (.l 0)⟩,
    ⟨none, .bin .gtr (.l 0) (.v (.c (.d (.int .i64 65536))))⟩] [(12, 0)] []) (
  .cond (.r 12) (
  .seq (.reg false [⟨none, .bld [.int .u32 0, .str []] []⟩,
    ⟨none, .st 2 (.r 2) (.l 0)⟩,
    ⟨none, .mov (.v (.c (.d (.int .i64 3))))⟩] [(3, 0)] []) (
  .ret)) (
  .skip))) (
  .seq (.reg false [⟨none, .ld true 2 (.r 8)⟩,
    ⟨none, .st 2 (.r 2) (.l 0)⟩,
    ⟨none, .mov (.v (.c (.d (.int .i64 0))))⟩] [(3, 0)] []) (
  .ret))))))))⟩
def fn285 : Fn := ⟨1, 3, [0, 1, 2], [.r 2],
  .seq (.reg false [⟨none, .box (.r 0)⟩,
    ⟨none, .mov (.v (.c (.d (.nilf))))⟩] [(1, 1), (2, 0)] []) (
  .seq (.reg false [⟨none, .mkf 310 [] [(.r 1)]⟩,
    ⟨none, .mov (.l 0)⟩] [(2, 0)] []) (
  .ret))⟩
def fn286 : Fn := ⟨4, 13, [0, 1, 2, 3, 4, 5, 8, 9, 13, 22, 28, 37, 42], [.cell 6 2 true],
  .seq (.reg false [⟨none, .box (.r 0)⟩,
    ⟨none, .box (.r 1)⟩,
    ⟨none, .new [.nils, .int .i64 0]⟩] [(4, 2), (5, 1), (6, 0)] []) (
  .seq (.seq (.reg false [⟨none, .fa 4 (.r 4)⟩,
    ⟨none, .ld false 1 (.l 0)⟩,
    ⟨none, .len (.l 0)⟩,
    ⟨none, .mov (.l 0)⟩] [(7, 0)] []) (
  .block 0 (
  .seq (.reg false [⟨none, .mov (.r 2)⟩,
    ⟨none, .bin .lss (.l 0) (.v (.c (.d (.int .i64 0))))⟩,
    ⟨none, .mov (.l 0)⟩,
    ⟨some (0, false), .mov (.r 3)⟩,
    ⟨some (1, false), .mov (.r 2)⟩,
    ⟨some (2, false), .bin .lss (.l 1) (.l 0)⟩,
    ⟨none, .pick (.l 3) (.v (.c (.d (.bool true)))) (.l 0)⟩,
    ⟨none, .mov (.l 0)⟩] [(8, 0)] []) (
  .cond (.r 8) (
  .seq (.reg false [⟨none, .vc 239 [(.v (.c (.d (.int .i64 1)))), (.v (.c (.d (.nils))))]⟩,
    ⟨none, .st 2 (.r 6) (.l 0)⟩] [] []) (
  .ret)) (
  .seq (.reg false [⟨none, .fa 0 (.r 4)⟩,
    ⟨none, .ld true 3 (.l 0)⟩,
    ⟨none, .ld true 3 (.r 5)⟩,
    ⟨none, .eqk true [0, 1, 0] (.l 1) (.l 0)⟩,
    ⟨none, .mov (.l 0)⟩] [(9, 0)] []) (
  .cond (.r 9) (
  .seq (.reg false [⟨none, .vc 239 [(.v (.c (.d (.int .i64 9)))), (.v (.c (.d (.nils))))]⟩,
    ⟨none, .st 2 (.r 6) (.l 0)⟩] [] []) (
  .ret)) (
  .seq (.reg false [⟨none, .mov (.r 7)⟩,
    ⟨none, .mov (.r 2)⟩,
    ⟨none, .bin .lss (.l 1) (.l 0)⟩,
    ⟨none, .mov (.l 0)⟩,
    ⟨some (0, true), .mov (.r 7)⟩,
    ⟨some (1, true), .bin .eql (.l 0) (.v (.c (.d (.int .i64 0))))⟩,
    ⟨none, .pick (.l 2) (.l 0) (.v (.c (.d (.bool false))))⟩,
    ⟨none, .mov (.l 0)⟩] [(10, 0)] []) (
  .cond (.r 10) (
  .seq (.reg false [⟨none, .vc 239 [(.v (.c (.d (.int .i64 17)))), (.v (.c (.d (.nils))))]⟩,
    ⟨none, .st 2 (.r 6) (.l 0)⟩] [] []) (
  .ret)) (
  .seq (.reg false [⟨none, .mov (.r 7)⟩,
    ⟨none, .mov (.r 2)⟩,
    ⟨none, .bin .lss (.l 1) (.l 0)⟩,
    ⟨none, .mov (.l 0)⟩] [(11, 0)] []) (
  .cond (.r 11) (
  .seq (.reg false [⟨none, .vc 239 [(.v (.c (.d (.int .i64 7)))), (.v (.c (.d (.nils))))]⟩,
    ⟨none, .st 2 (.r 6) (.l 0)⟩] [] []) (
  .ret)) (
  .seq (.reg false [⟨none, .mov (.r 7)⟩,
    ⟨none, .mov (.r 3)⟩,
    ⟨none, .bin .gtr (.l 1) (.l 0)⟩,
    ⟨none, .mov (.l 0)⟩] [(12, 0)] []) (
  .cond (.r 12) (
  .seq (.reg false [⟨none, .mov (.r 3)⟩,
    ⟨none, .bsl 1 1 [.int .i64 0] [(0, 1, (.l 0))]⟩,
    ⟨none, .vc 239 [(.v (.c (.d (.int .i64 3)))), (.l 0)]⟩,
    ⟨none, .st 2 (.r 6) (.l 0)⟩] [] []) (
  .ret)) (
  .skip))))))))))))) (
  .seq (.reg false [⟨none, .bld [.nils, .int .i64 0] []⟩,
    ⟨none, .st 2 (.r 6) (.l 0)⟩] [] []) (
  .ret)))⟩
def fn287 : Fn := ⟨3, 11, [0, 1, 2, 4, 6, 7, 8, 12, 22, 25, 28], [.r 4],
  .seq (.reg false [⟨none, .box (.r 1)⟩,
    ⟨none, .mov (.v (.c (.d (.int .u32 0))))⟩] [(3, 1), (4, 0)] []) (
  .seq (.seq (.reg false [⟨none, .fa 0 (.r 3)⟩,
    ⟨none, .ld true 3 (.l 0)⟩,
    ⟨none, .ld true 3 (.g 6)⟩,
    ⟨none, .eqk true [0, 1, 0] (.l 1) (.l 0)⟩] [(7, 0)] []) (
  .cond (.r 7) (
  .seq (.reg false [⟨none, .mov (.r 0)⟩,
    ⟨none, .mov (.r 2)⟩,
    ⟨none, .vc 241 [(.l 1), (.v (.c (.d (.int .i64 9)))), (.l 0)]⟩] [] []) (
  .seq (.reg false [⟨none, .mov (.v (.c (.d (.int .u32 0))))⟩] [(4, 0)] []) (
  .ret))) (
  .skip))) (
  .seq (.reg false [⟨none, .fa 3 (.r 3)⟩,
    ⟨none, .ld false 1 (.l 0)⟩,
    ⟨none, .vc 311 [(.l 0)]⟩,
    ⟨none, .mov (.l 0)⟩,
    ⟨none, .ext (.l 0) 0⟩,
    ⟨none, .ext (.l 1) 1⟩,
    ⟨none, .mov (.l 1)⟩,
    ⟨none, .mov (.l 1)⟩] [(5, 1), (6, 0)] []) (
  .seq (.block 0 (
  .seq (.reg false [⟨none, .mov (.r 6)⟩,
    ⟨none, .bin .neq (.l 0) (.v (.c (.d (.int .i64 0))))⟩,
    ⟨none, .mov (.l 0)⟩] [(8, 0)] []) (
  .cond (.r 8) (
  .skip) (
  .seq (.reg false [⟨none, .mov (.r 5)⟩,
    ⟨none, .bin .lss (.l 0) (.v (.c (.d (.int .i64 0))))⟩,
    ⟨none, .mov (.l 0)⟩] [(9, 0)] []) (
  .cond (.r 9) (
  .reg false [⟨none, .mov (.v (.c (.d (.int .i64 11))))⟩] [(6, 0)] []) (
  .seq (.reg false [⟨none, .mov (.r 5)⟩,
    ⟨none, .bin .gtr (.l 0) (.v (.c (.d (.int .i64 4294967295))))⟩,
    ⟨none, .mov (.l 0)⟩] [(10, 0)] []) (
  .cond (.r 10) (
  .reg false [⟨none, .mov (.v (.c (.d (.int .i64 3))))⟩] [(6, 0)] []) (
  .skip)))))))) (
  .seq (.reg false [⟨none, .mov (.r 0)⟩,
    ⟨none, .mov (.r 6)⟩,
    ⟨none, .mov (.r 2)⟩,
    ⟨none, .vc 241 [(.l 2), (.l 1), (.l 0)]⟩] [] []) (
  .seq (.reg false [⟨none, .mov (.r 5)⟩,
    ⟨none, .cvi .u32 (.l 0)⟩,
    ⟨none, .mov (.l 0)⟩] [(4, 0)] []) (
  .ret))))))⟩
def fn288 : Fn := ⟨1, 2, [0, 2], [.r 1],
  .seq (.reg false [⟨none, .mov (.v (.c (.d (.nils))))⟩] [(1, 0)] []) (
  .seq (.reg false [⟨none, .mov (.r 0)⟩,
    ⟨none, .mov (.r 0)⟩,
    ⟨none, .len (.l 0)⟩,
    ⟨none, .mov (.r 0)⟩,
    ⟨none, .len (.l 0)⟩,
    ⟨none, .slc 1 (.l 4) none (some (.l 2)) (some (.l 0))⟩,
    ⟨none, .mov (.l 0)⟩] [(1, 0)] []) (
  .ret))⟩
def fn289 : Fn := ⟨2, 3, [0, 1, 4], [.r 2],
  .seq (.reg false [⟨none, .mov (.v (.c (.d (.bool false))))⟩] [(2, 0)] []) (
  .seq (.reg false [⟨none, .mov (.r 0)⟩,
    ⟨none, .mov (.r 1)⟩,
    ⟨none, .vc 312 [(.l 1), (.l 0)]⟩,
    ⟨none, .bin .geq (.l 0) (.v (.c (.d (.int .i64 0))))⟩,
    ⟨none, .mov (.l 0)⟩] [(2, 0)] []) (
  .ret))⟩
def fn290 : Fn := ⟨3, 18, [0, 1, 2, 6, 7, 8, 9, 10, 11, 13, 16, 17, 21, 38, 41, 52, 62, 69], [.r 3, .r 4],
  .seq (.reg false [⟨none, .mov (.v (.c (.d (.int .i64 0))))⟩,
    ⟨none, .mov (.v (.c (.d (.nili))))⟩] [(3, 1), (4, 0)] []) (
  .seq (.seq (.reg false [⟨none, .mov (.r 0)⟩,
    ⟨none, .bin .eql (.l 0) (.v (.c (.d (.str []))))⟩] [(9, 0)] []) (
  .cond (.r 9) (
  .seq (.reg false [⟨none, .mki (.v (.c (.d (.int .i64 2))))⟩,
    ⟨none, .mov (.v (.c (.d (.int .i64 0))))⟩,
    ⟨none, .mov (.l 1)⟩] [(3, 1), (4, 0)] []) (
  .ret)) (
  .skip))) (
  .seq (.reg false [⟨none, .mov (.v (.c (.d (.bool false))))⟩] [(5, 0)] []) (
  .seq (.seq (.reg false [⟨none, .mov (.r 0)⟩,
    ⟨none, .ixs (.l 0) (.v (.c (.d (.int .i64 0))))⟩] [(10, 0)] []) (
  .block 0 (
  .seq (.reg false [⟨none, .bin .eql (.r 10) (.v (.c (.d (.int .u8 43))))⟩,
    ⟨none, .mov (.l 0)⟩] [(11, 0)] []) (
  .cond (.r 11) (
  .reg false [⟨none, .mov (.r 0)⟩,
    ⟨none, .sls (.l 0) (some (.v (.c (.d (.int .i64 1))))) none⟩,
    ⟨none, .mov (.l 0)⟩] [(0, 0)] []) (
  .seq (.reg false [⟨none, .bin .eql (.r 10) (.v (.c (.d (.int .u8 45))))⟩,
    ⟨none, .mov (.l 0)⟩] [(12, 0)] []) (
  .cond (.r 12) (
  .seq (.reg false [⟨none, .mov (.r 0)⟩,
    ⟨none, .sls (.l 0) (some (.v (.c (.d (.int .i64 1))))) none⟩,
    ⟨none, .mov (.l 0)⟩] [(0, 0)] []) (
  .reg false [⟨none, .mov (.v (.c (.d (.bool true))))⟩] [(5, 0)] [])) (
  .skip))))))) (
  .seq (.reg false [⟨none, .mov (.v (.c (.d (.int .u64 0))))⟩] [(6, 0)] []) (
  .seq (.reg false [⟨none, .mov (.r 0)⟩,
    ⟨none, .mov (.r 1)⟩,
    ⟨none, .mov (.r 2)⟩,
    ⟨none, .vc 235 [(.l 2), (.l 1), (.l 0)]⟩,
    ⟨none, .mov (.l 0)⟩,
    ⟨none, .ext (.l 0) 0⟩,
    ⟨none, .ext (.l 1) 1⟩,
    ⟨none, .mov (.l 1)⟩,
    ⟨none, .mov (.l 1)⟩] [(6, 1), (4, 0)] []) (
  .seq (.seq (.bad) (
  .cond (.r 13) (
  .seq (.reg false [⟨none, .mov (.r 4)⟩,
    ⟨none, .mov (.v (.c (.d (.int .i64 0))))⟩,
    ⟨none, .mov (.l 1)⟩] [(3, 1), (4, 0)] []) (
  .ret)) (
  .skip))) (
  .seq (.seq (.reg false [⟨none, .mov (.r 2)⟩,
    ⟨none, .bin .eql (.l 0) (.v (.c (.d (.int .i64 0))))⟩] [(14, 0)] []) (
  .cond (.r 14) (
  .reg false [⟨none, .mov (.v (.c (.d (.int .i64 64))))⟩] [(2, 0)] []) (
  .skip))) (
  .seq (.reg false [⟨none, .mov (.r 2)⟩,
    ⟨none, .bin .sub (.l 0) (.v (.c (.d (.int .i64 1))))⟩,
    ⟨none, .cvi .u64 (.l 0)⟩,
    ⟨none, .bin .shl (.v (.c (.d (.int .u64 1)))) (.l 0)⟩,
    ⟨none, .mov (.l 0)⟩] [(7, 0)] []) (
  .seq (.seq (.reg false [⟨none, .mov (.r 5)⟩,
    ⟨none, .un .not (.l 0)⟩,
    ⟨none, .mov (.l 0)⟩,
    ⟨some (0, true), .mov (.r 6)⟩,
    ⟨some (1, true), .mov (.r 7)⟩,
    ⟨some (2, true), .bin .geq (.l 1) (.l 0)⟩,
    ⟨none, .pick (.l 3) (.l 0) (.v (.c (.d (.bool false))))⟩] [(15, 0)] []) (
  .cond (.r 15) (
  .seq (.reg false [⟨none, .mov (.r 7)⟩,
    ⟨none, .bin .sub (.l 0) (.v (.c (.d (.int .u64 1))))⟩,
    ⟨none, .cvi .i64 (.l 0)⟩,
    ⟨none, .mki (.v (.c (.d (.int .i64 1))))⟩,
    ⟨none, .mov (.l 1)⟩,
    ⟨none, .mov (.l 1)⟩] [(3, 1), (4, 0)] []) (
  .ret)) (
  .skip))) (
  .seq (.seq (.reg false [⟨none, .mov (.r 5)⟩,
    ⟨none, .mov (.l 0)⟩,
    ⟨some (0, true), .mov (.r 6)⟩,
    ⟨some (1, true), .mov (.r 7)⟩,
    ⟨some (2, true), .bin .gtr (.l 1) (.l 0)⟩,
    ⟨none, .pick (.l 3) (.l 0) (.v (.c (.d (.bool false))))⟩] [(16, 0)] []) (
  .cond (.r 16) (
  .seq (.reg false [⟨none, .mov (.r 7)⟩,
    ⟨none, .cvi .i64 (.l 0)⟩,
    ⟨none, .un .neg (.l 0)⟩,
    ⟨none, .mki (.v (.c (.d (.int .i64 1))))⟩,
    ⟨none, .mov (.l 1)⟩,
    ⟨none, .mov (.l 1)⟩] [(3, 1), (4, 0)] []) (
  .ret)) (
  .skip))) (
  .seq (.reg false [⟨none, .mov (.r 6)⟩,
    ⟨none, .cvi .i64 (.l 0)⟩,
    ⟨none, .mov (.l 0)⟩] [(8, 0)] []) (
  .seq (.seq (.reg false [⟨none, .mov (.r 5)⟩] [(17, 0)] []) (
  .cond (.r 17) (
  .reg false [⟨none, .mov (.r 8)⟩,
    ⟨none, .un .neg (.l 0)⟩,
    ⟨none, .mov (.l 0)⟩] [(8, 0)] []) (
  .skip))) (
  .seq (.reg false [⟨none, .mov (.r 8)⟩,
    ⟨none, .mov (.l 0)⟩,
    ⟨none, .mov (.v (.c (.d (.nili))))⟩] [(3, 1), (4, 0)] []) (
  .ret))))))))))))))⟩
def fn291 : Fn := ⟨1, 4, [0, 1, 2, 4], [.r 2],
  .seq (.reg false [⟨none, .box (.r 0)⟩,
    ⟨none, .mov (.v (.c (.d (.int .i64 0))))⟩] [(1, 1), (2, 0)] []) (
  .seq (.reg false [⟨none, .ld true 2 (.r 1)⟩,
    ⟨none, .vc 313 [(.l 0)]⟩,
    ⟨none, .mov (.l 0)⟩,
    ⟨none, .ext (.l 0) 0⟩,
    ⟨none, .ext (.l 1) 1⟩,
    ⟨none, .pre⟩,
    ⟨none, .ini 3 (.l 2)⟩,
    ⟨none, .mov (.l 2)⟩] [(3, 0)] []) (
  .seq (.reg false [⟨none, .mov (.r 3)⟩,
    ⟨none, .mov (.l 0)⟩] [(2, 0)] []) (
  .ret)))⟩
def fn292 : Fn := ⟨1, 4, [0, 1, 2, 5], [.r 2],
  .seq (.reg false [⟨none, .box (.r 0)⟩,
    ⟨none, .mov (.v (.c (.d (.int .i64 0))))⟩] [(1, 1), (2, 0)] []) (
  .seq (.seq (.reg false [⟨none, .ld true 2 (.r 1)⟩,
    ⟨none, .vc 291 [(.l 0)]⟩,
    ⟨none, .bin .neq (.l 0) (.v (.c (.d (.int .i64 0))))⟩] [(3, 0)] []) (
  .cond (.r 3) (
  .seq (.reg false [⟨none, .mov (.v (.c (.d (.int .i64 0))))⟩] [(2, 0)] []) (
  .ret)) (
  .skip))) (
  .seq (.reg false [⟨none, .fa 1 (.r 1)⟩,
    ⟨none, .ld false 1 (.l 0)⟩,
    ⟨none, .vc 230 [(.l 0)]⟩,
    ⟨none, .mov (.l 0)⟩] [(2, 0)] []) (
  .ret)))⟩
def fn293L0 : I := .seq (.reg false [⟨none, .nxs (.r 9)⟩,
    ⟨none, .ext (.l 0) 0⟩] [(10, 1), (11, 0)] []) (
  .seq (.cond (.r 11) (
  .skip) (
  .exit 0)) (
  .block 1 (
  .seq (.reg false [⟨none, .ext (.r 10) 2⟩,
    ⟨none, .mov (.l 0)⟩] [(7, 0)] []) (
  .reg false [⟨none, .fa 2 (.r 4)⟩,
    ⟨none, .ld false 1 (.l 0)⟩,
    ⟨none, .mov (.r 6)⟩,
    ⟨none, .mov (.r 7)⟩,
    ⟨none, .hc (.l 2) [(.l 1), (.l 0)]⟩,
    ⟨none, .mov (.l 0)⟩] [(6, 0)] []))))
def fn293 : Fn := ⟨1, 12, [0, 1, 2, 3, 4, 5, 6, 8, 15, 19, 20, 21], [.r 2, .r 3],
  .seq (.reg false [⟨none, .box (.r 0)⟩,
    ⟨none, .mov (.v (.c (.d (.nils))))⟩,
    ⟨none, .mov (.v (.c (.d (.int .i64 0))))⟩] [(1, 2), (2, 1), (3, 0)] []) (
  .seq (.reg false [⟨none, .ld true 2 (.r 1)⟩,
    ⟨none, .vc 313 [(.l 0)]⟩,
    ⟨none, .mov (.l 0)⟩,
    ⟨none, .ext (.l 0) 0⟩,
    ⟨none, .ext (.l 1) 1⟩,
    ⟨none, .pre⟩,
    ⟨none, .ini 3 (.l 2)⟩,
    ⟨none, .mov (.l 2)⟩] [(4, 1), (5, 0)] []) (
  .seq (.seq (.reg false [⟨none, .mov (.r 5)⟩,
    ⟨none, .bin .neq (.l 0) (.v (.c (.d (.int .i64 0))))⟩] [(8, 0)] []) (
  .cond (.r 8) (
  .seq (.reg false [⟨none, .mov (.r 5)⟩,
    ⟨none, .mov (.v (.c (.d (.nils))))⟩,
    ⟨none, .mov (.l 1)⟩] [(2, 1), (3, 0)] []) (
  .ret)) (
  .skip))) (
  .seq (.reg false [⟨none, .mov (.v (.c (.d (.nils))))⟩] [(6, 0)] []) (
  .seq (.seq (.reg false [⟨none, .fa 1 (.r 1)⟩,
    ⟨none, .ld false 1 (.l 0)⟩,
    ⟨none, .rgs (.l 0)⟩] [(9, 0)] []) (
  .block 0 (
  .loop (some [4, 6, 9]) fn293L0))) (
  .seq (.reg false [⟨none, .mov (.r 6)⟩,
    ⟨none, .hc (.v (.c (.d (.fn 200 [] [])))) [(.l 0)]⟩,
    ⟨none, .mov (.l 0)⟩,
    ⟨none, .mov (.v (.c (.d (.int .i64 0))))⟩] [(2, 1), (3, 0)] []) (
  .ret))))))⟩
def fn294 : Fn := ⟨1, 2, [0, 2], [.r 1],
  .seq (.reg false [⟨none, .mov (.v (.c (.d (.bool false))))⟩] [(1, 0)] []) (
  .seq (.reg false [⟨none, .mov (.r 0)⟩,
    ⟨none, .len (.l 0)⟩,
    ⟨none, .bin .gtr (.l 0) (.v (.c (.d (.int .i64 1))))⟩,
    ⟨none, .mov (.l 0)⟩,
    ⟨some (0, true), .mov (.r 0)⟩,
    ⟨some (1, true), .ixa 1 (.l 0) (.v (.c (.d (.int .i64 0))))⟩,
    ⟨some (2, true), .ld false 1 (.l 0)⟩,
    ⟨some (3, true), .bin .eql (.l 0) (.v (.c (.d (.int .u8 0))))⟩,
    ⟨some (4, true), .mov (.l 0)⟩,
    ⟨some (0, true), .mov (.r 0)⟩,
    ⟨some (1, true), .ixa 1 (.l 0) (.v (.c (.d (.int .i64 1))))⟩,
    ⟨some (2, true), .ld false 1 (.l 0)⟩,
    ⟨some (3, true), .bin .lss (.l 0) (.v (.c (.d (.int .u8 128))))⟩,
    ⟨some (9, true), .pick (.l 4) (.l 0) (.v (.c (.d (.bool false))))⟩,
    ⟨some (10, true), .mov (.l 0)⟩,
    ⟨some (0, false), .mov (.r 0)⟩,
    ⟨some (1, false), .ixa 1 (.l 0) (.v (.c (.d (.int .i64 0))))⟩,
    ⟨some (2, false), .ld false 1 (.l 0)⟩,
    ⟨some (3, false), .bin .eql (.l 0) (.v (.c (.d (.int .u8 255))))⟩,
    ⟨some (4, false), .mov (.l 0)⟩,
    ⟨some (0, true), .mov (.r 0)⟩,
    ⟨some (1, true), .ixa 1 (.l 0) (.v (.c (.d (.int .i64 1))))⟩,
    ⟨some (2, true), .ld false 1 (.l 0)⟩,
    ⟨some (3, true), .bin .geq (.l 0) (.v (.c (.d (.int .u8 128))))⟩,
    ⟨some (9, false), .pick (.l 4) (.l 0) (.v (.c (.d (.bool false))))⟩,
    ⟨some (21, true), .pick (.l 10) (.v (.c (.d (.bool true)))) (.l 0)⟩,
    ⟨none, .pick (.l 22) (.l 0) (.v (.c (.d (.bool false))))⟩,
    ⟨none, .mov (.l 0)⟩] [(1, 0)] []) (
  .ret))⟩
def fn298 : Fn := ⟨2, 3, [0, 1, 4], [.r 2],
  .seq (.reg false [⟨none, .mov (.v (.c (.d (.bool false))))⟩] [(2, 0)] []) (
  .seq (.reg false [⟨none, .mov (.r 0)⟩,
    ⟨none, .mov (.r 1)⟩,
    ⟨none, .vc 314 [(.l 1), (.l 0)]⟩,
    ⟨none, .bin .geq (.l 0) (.v (.c (.d (.int .i64 0))))⟩,
    ⟨none, .mov (.l 0)⟩] [(2, 0)] []) (
  .ret))⟩
def fn300 : Fn := ⟨1, 4, [0, 2, 3, 6], [.r 1],
  .seq (.reg false [⟨none, .mov (.v (.c (.d (.str []))))⟩] [(1, 0)] []) (
  .seq (.seq (.reg false [⟨none, .mov (.r 0)⟩,
    ⟨none, .lns (.l 0)⟩,
    ⟨none, .bin .eql (.l 0) (.v (.c (.d (.int .i64 0))))⟩] [(3, 0)] []) (
  .cond (.r 3) (
  .seq (.reg false [⟨none, .mov (.v (.c (.d (.str []))))⟩] [(1, 0)] []) (
  .ret)) (
  .skip))) (
  .seq (.reg false [⟨none, .mov (.r 0)⟩,
    ⟨none, .lns (.l 0)⟩,
    ⟨none, .mks 1 1 [.int .u8 0] (.l 0) (.l 0)⟩,
    ⟨none, .mov (.l 0)⟩] [(2, 0)] []) (
  .seq (.reg false [⟨none, .mov (.r 2)⟩,
    ⟨none, .mov (.r 0)⟩,
    ⟨none, .cpy 1 (.l 1) (.l 0)⟩] [] []) (
  .seq (.bad) (
  .ret)))))⟩
def fn301 : Fn := ⟨1, 2, [0, 2], [.r 1],
  .seq (.reg false [⟨none, .mov (.v (.c (.d (.nili))))⟩] [(1, 0)] []) (
  .seq (.reg false [⟨none, .mov (.r 0)⟩,
    ⟨none, .bld [.str []] [(0, 1, (.l 0))]⟩,
    ⟨none, .box (.l 0)⟩,
    ⟨none, .mki (.l 0)⟩,
    ⟨none, .mov (.l 0)⟩] [(1, 0)] []) (
  .ret))⟩
def fn303 : Fn := ⟨0, 1, [0], [.r 0],
  .seq (.reg false [⟨none, .mov (.v (.c (.d (.nils))))⟩] [(0, 0)] []) (
  .seq (.reg false [⟨none, .vc 316 [(.v (.c (.d (.int .i32 1)))), (.v (.c (.d (.int .i32 1114111))))]⟩,
    ⟨none, .bld [.int .u32 0, .nilf, .nilf] [(0, 1, (.v (.c (.d (.int .u32 12))))), (1, 1, (.l 0)), (2, 1, (.v (.c (.d (.fn 317 [] [])))))]⟩,
    ⟨none, .bld [.int .u32 0, .nilf, .nilf] [(0, 1, (.v (.c (.d (.int .u32 19))))), (1, 1, (.v (.c (.d (.fn 318 [] []))))), (2, 1, (.v (.c (.d (.fn 319 [] [])))))]⟩,
    ⟨none, .vc 316 [(.v (.c (.d (.int .i32 1)))), (.v (.c (.d (.int .i32 127))))]⟩,
    ⟨none, .bld [.int .u32 0, .nilf, .nilf] [(0, 1, (.v (.c (.d (.int .u32 22))))), (1, 1, (.l 0)), (2, 1, (.v (.c (.d (.fn 319 [] [])))))]⟩,
    ⟨none, .vc 316 [(.v (.c (.d (.int .i32 32)))), (.v (.c (.d (.int .i32 126))))]⟩,
    ⟨none, .bld [.int .u32 0, .nilf, .nilf] [(0, 1, (.v (.c (.d (.int .u32 26))))), (1, 1, (.l 0)), (2, 1, (.v (.c (.d (.fn 319 [] [])))))]⟩,
    ⟨none, .vc 316 [(.v (.c (.d (.int .i32 1)))), (.v (.c (.d (.int .i32 65535))))]⟩,
    ⟨none, .bld [.int .u32 0, .nilf, .nilf] [(0, 1, (.v (.c (.d (.int .u32 30))))), (1, 1, (.l 0)), (2, 1, (.v (.c (.d (.fn 320 [] [])))))]⟩,
    ⟨none, .bsl 5 3 [.int .u32 0, .nilf, .nilf] [(0, 3, (.l 7)), (3, 3, (.l 6)), (6, 3, (.l 4)), (9, 3, (.l 2)), (12, 3, (.l 0))]⟩,
    ⟨none, .mov (.l 0)⟩] [(0, 0)] []) (
  .ret))⟩
def fn304L0 : I := .seq (.reg false [⟨none, .bin .lss (.r 5) (.r 4)⟩] [(6, 0)] []) (
  .seq (.cond (.r 6) (
  .skip) (
  .exit 0)) (
  .seq (.block 1 (
  .seq (.reg false [⟨none, .mov (.r 5)⟩,
    ⟨none, .mov (.l 0)⟩] [(3, 0)] []) (
  .seq (.reg false [⟨none, .mov (.r 1)⟩,
    ⟨none, .mov (.r 0)⟩,
    ⟨none, .mov (.r 3)⟩,
    ⟨none, .ixa 3 (.l 1) (.l 0)⟩,
    ⟨none, .ld true 3 (.l 0)⟩,
    ⟨none, .hc (.l 4) [(.l 0)]⟩] [(7, 0)] []) (
  .cond (.r 7) (
  .seq (.reg false [⟨none, .mov (.r 3)⟩,
    ⟨none, .mov (.l 0)⟩] [(2, 0)] []) (
  .ret)) (
  .skip))))) (
  .reg false [⟨none, .bin .add (.r 5) (.v (.c (.d (.int .i64 1))))⟩,
    ⟨none, .mov (.l 0)⟩] [(5, 0)] [])))
def fn304 : Fn := ⟨2, 8, [0, 1, 4, 5, 7, 8, 9, 16], [.r 2],
  .seq (.reg false [⟨none, .mov (.v (.c (.d (.int .i64 0))))⟩] [(2, 0)] []) (
  .seq (.seq (.reg false [⟨none, .mov (.r 0)⟩,
    ⟨none, .len (.l 0)⟩,
    ⟨none, .mov (.v (.c (.d (.int .i64 0))))⟩] [(4, 1), (5, 0)] []) (
  .block 0 (
  .loop (some [0, 1, 4, 5]) fn304L0))) (
  .seq (.reg false [⟨none, .mov (.v (.c (.d (.int .i64 (-1)))))⟩] [(2, 0)] []) (
  .ret)))⟩
def fn305 : Fn := ⟨2, 4, [0, 1, 2, 3], [.r 3],
  .seq (.reg false [⟨none, .box (.r 0)⟩,
    ⟨none, .mov (.v (.c (.d (.bool false))))⟩] [(2, 1), (3, 0)] []) (
  .seq (.reg false [⟨none, .fa 0 (.r 2)⟩,
    ⟨none, .ld false 1 (.l 0)⟩,
    ⟨none, .ld false 1 (.r 1)⟩,
    ⟨none, .bin .eql (.l 1) (.l 0)⟩,
    ⟨none, .mov (.l 0)⟩] [(3, 0)] []) (
  .ret))⟩
def fn306L0 : I := .seq (.reg false [⟨none, .bin .lss (.r 13) (.r 12)⟩] [(14, 0)] []) (
  .seq (.cond (.r 14) (
  .skip) (
  .exit 3)) (
  .seq (.block 4 (
  .seq (.reg false [⟨none, .ixa 1 (.r 11) (.r 13)⟩,
    ⟨none, .ld false 1 (.l 0)⟩,
    ⟨none, .mov (.l 0)⟩] [(6, 0)] []) (
  .reg false [⟨none, .mov (.r 4)⟩,
    ⟨none, .mov (.r 6)⟩,
    ⟨none, .cvi .i32 (.l 0)⟩,
    ⟨none, .bsl 1 1 [.int .i32 0] [(0, 1, (.l 0))]⟩,
    ⟨none, .app 1 (.l 3) (.l 0)⟩,
    ⟨none, .mov (.l 0)⟩] [(4, 0)] []))) (
  .reg false [⟨none, .bin .add (.r 13) (.v (.c (.d (.int .i64 1))))⟩,
    ⟨none, .mov (.l 0)⟩] [(13, 0)] [])))
def fn306L1 : I := .seq (.seq (.reg false [⟨none, .mov (.r 5)⟩,
    ⟨none, .bin .add (.l 0) (.v (.c (.d (.int .i64 1))))⟩,
    ⟨none, .mov (.r 1)⟩,
    ⟨none, .len (.l 0)⟩,
    ⟨none, .bin .lss (.l 2) (.l 0)⟩] [(10, 0)] []) (
  .cond (.r 10) (
  .skip) (
  .exit 1))) (
  .seq (.block 2 (
  .reg true [⟨none, .mov (.r 4)⟩,
    ⟨none, .mov (.r 1)⟩,
    ⟨none, .mov (.r 5)⟩,
    ⟨none, .ixa 1 (.l 1) (.l 0)⟩,
    ⟨none, .ld false 1 (.l 0)⟩,
    ⟨none, .cvi .i32 (.l 0)⟩,
    ⟨none, .bin .shl (.l 0) (.v (.c (.d (.int .u64 8))))⟩,
    ⟨none, .mov (.r 1)⟩,
    ⟨none, .mov (.r 5)⟩,
    ⟨none, .bin .add (.l 0) (.v (.c (.d (.int .i64 1))))⟩,
    ⟨none, .ixa 1 (.l 2) (.l 0)⟩,
    ⟨none, .ld false 1 (.l 0)⟩,
    ⟨none, .cvi .i32 (.l 0)⟩,
    ⟨none, .bin .or (.l 6) (.l 0)⟩,
    ⟨none, .bsl 1 1 [.int .i32 0] [(0, 1, (.l 0))]⟩,
    ⟨none, .app 1 (.l 14) (.l 0)⟩,
    ⟨none, .mov (.l 0)⟩] [(4, 0)] [])) (
  .reg false [⟨none, .mov (.r 5)⟩,
    ⟨none, .bin .add (.l 0) (.v (.c (.d (.int .i64 2))))⟩,
    ⟨none, .mov (.l 0)⟩] [(5, 0)] []))
def fn306 : Fn := ⟨2, 15, [0, 1, 4, 5, 6, 7, 9, 10, 11, 18, 24, 48, 49, 50, 51], [.r 2, .r 3],
  .seq (.reg false [⟨none, .mov (.v (.c (.d (.nils))))⟩,
    ⟨none, .mov (.v (.c (.d (.bool false))))⟩] [(2, 1), (3, 0)] []) (
  .seq (.reg false [⟨none, .mov (.v (.c (.d (.nils))))⟩] [(4, 0)] []) (
  .seq (.seq (.reg false [⟨none, .mov (.r 0)⟩] [(7, 0)] []) (
  .block 0 (
  .seq (.reg false [⟨none, .bin .eql (.r 7) (.v (.c (.d (.int .u32 12))))⟩,
    ⟨none, .mov (.l 0)⟩] [(8, 0)] []) (
  .cond (.r 8) (
  .seq (.bad) (
  .ret)) (
  .seq (.reg false [⟨none, .bin .eql (.r 7) (.v (.c (.d (.int .u32 30))))⟩,
    ⟨none, .mov (.l 0)⟩] [(9, 0)] []) (
  .cond (.r 9) (
  .seq (.seq (.reg false [⟨none, .mov (.v (.c (.d (.int .i64 0))))⟩] [(5, 0)] []) (
  .block 1 (
  .seq (.fresh 4 none 1) (
  .loop (some [1, 4, 5]) fn306L1)))) (
  .seq (.reg false [⟨none, .mov (.r 4)⟩,
    ⟨none, .mov (.r 1)⟩,
    ⟨none, .len (.l 0)⟩,
    ⟨none, .bin .rem (.l 0) (.v (.c (.d (.int .i64 2))))⟩,
    ⟨none, .bin .eql (.l 0) (.v (.c (.d (.int .i64 0))))⟩,
    ⟨none, .mov (.l 4)⟩,
    ⟨none, .mov (.l 1)⟩] [(2, 1), (3, 0)] []) (
  .ret))) (
  .skip))))))) (
  .seq (.seq (.reg false [⟨none, .mov (.r 1)⟩,
    ⟨none, .len (.l 0)⟩,
    ⟨none, .mov (.v (.c (.d (.int .i64 0))))⟩] [(11, 2), (12, 1), (13, 0)] []) (
  .block 3 (
  .seq (.fresh 4 none 1) (
  .loop (some [4, 11, 12, 13]) fn306L0)))) (
  .seq (.reg false [⟨none, .mov (.r 4)⟩,
    ⟨none, .mov (.l 0)⟩,
    ⟨none, .mov (.v (.c (.d (.bool true))))⟩] [(2, 1), (3, 0)] []) (
  .ret)))))⟩
def fn307 : Fn := ⟨2, 3, [0, 1, 4], [.r 2],
  .seq (.reg false [⟨none, .mov (.v (.c (.d (.bool false))))⟩] [(2, 0)] []) (
  .seq (.reg false [⟨none, .mov (.r 0)⟩,
    ⟨none, .mov (.r 1)⟩,
    ⟨none, .vc 322 [(.l 1), (.l 0)]⟩,
    ⟨none, .bin .geq (.l 0) (.v (.c (.d (.int .i64 0))))⟩,
    ⟨none, .mov (.l 0)⟩] [(2, 0)] []) (
  .ret))⟩
def fn308 : Fn := ⟨2, 3, [0, 1, 3], [.r 2],
  .seq (.reg false [⟨none, .mov (.v (.c (.d (.bool false))))⟩] [(2, 0)] []) (
  .seq (.reg false [⟨none, .mov (.r 0)⟩,
    ⟨none, .vc 309 [(.l 0)]⟩,
    ⟨none, .un .not (.l 0)⟩,
    ⟨none, .mov (.l 0)⟩,
    ⟨some (0, false), .fa 1 (.r 1)⟩,
    ⟨some (1, false), .ld false 1 (.l 0)⟩,
    ⟨some (2, false), .mov (.r 0)⟩,
    ⟨some (3, false), .hc (.l 1) [(.l 0)]⟩,
    ⟨some (4, false), .un .not (.l 0)⟩,
    ⟨none, .pick (.l 5) (.v (.c (.d (.bool true)))) (.l 0)⟩,
    ⟨none, .mov (.l 0)⟩] [(2, 0)] []) (
  .ret))⟩
def fn309 : Fn := ⟨1, 4, [0, 2, 3, 10], [.r 1],
  .seq (.reg false [⟨none, .mov (.v (.c (.d (.bool false))))⟩] [(1, 0)] []) (
  .seq (.block 0 (
  .seq (.reg false [⟨none, .mov (.r 0)⟩,
    ⟨none, .bin .leq (.v (.c (.d (.int .i32 0)))) (.l 0)⟩,
    ⟨none, .mov (.l 0)⟩,
    ⟨some (0, true), .mov (.r 0)⟩,
    ⟨some (1, true), .bin .lss (.l 0) (.v (.c (.d (.int .i32 55296))))⟩,
    ⟨none, .pick (.l 2) (.l 0) (.v (.c (.d (.bool false))))⟩,
    ⟨none, .mov (.l 0)⟩] [(2, 0)] []) (
  .cond (.r 2) (
  .seq (.reg false [⟨none, .mov (.v (.c (.d (.bool true))))⟩] [(1, 0)] []) (
  .ret)) (
  .seq (.reg false [⟨none, .mov (.r 0)⟩,
    ⟨none, .bin .lss (.v (.c (.d (.int .i32 57343)))) (.l 0)⟩,
    ⟨none, .mov (.l 0)⟩,
    ⟨some (0, true), .mov (.r 0)⟩,
    ⟨some (1, true), .bin .leq (.l 0) (.v (.c (.d (.int .i32 1114111))))⟩,
    ⟨none, .pick (.l 2) (.l 0) (.v (.c (.d (.bool false))))⟩,
    ⟨none, .mov (.l 0)⟩] [(3, 0)] []) (
  .cond (.r 3) (
  .seq (.reg false [⟨none, .mov (.v (.c (.d (.bool true))))⟩] [(1, 0)] []) (
  .ret)) (
  .skip)))))) (
  .seq (.reg false [⟨none, .mov (.v (.c (.d (.bool false))))⟩] [(1, 0)] []) (
  .ret)))⟩
def fn310L0 : I := .seq (.seq (.reg false [⟨none, .mov (.r 2)⟩,
    ⟨none, .bin .geq (.l 0) (.v (.c (.d (.int .i64 0))))⟩] [(3, 0)] []) (
  .cond (.r 3) (
  .skip) (
  .exit 0))) (
  .seq (.block 1 (
  .seq (.reg false [⟨none, .mov (.r 0)⟩,
    ⟨none, .mov (.r 2)⟩,
    ⟨none, .ld false 1 (.r 1)⟩,
    ⟨none, .mov (.r 2)⟩,
    ⟨none, .ixa 1 (.l 1) (.l 0)⟩,
    ⟨none, .ld false 1 (.l 0)⟩,
    ⟨none, .hc (.l 5) [(.l 4), (.l 0)]⟩,
    ⟨none, .un .not (.l 0)⟩] [(4, 0)] []) (
  .cond (.r 4) (
  .ret) (
  .skip)))) (
  .reg false [⟨none, .mov (.r 2)⟩,
    ⟨none, .bin .sub (.l 0) (.v (.c (.d (.int .i64 1))))⟩,
    ⟨none, .mov (.l 0)⟩] [(2, 0)] []))
def fn310 : Fn := ⟨2, 5, [0, 1, 3, 8, 18], [],
  .seq (.reg false [⟨none, .ld false 1 (.r 1)⟩,
    ⟨none, .len (.l 0)⟩,
    ⟨none, .bin .sub (.l 0) (.v (.c (.d (.int .i64 1))))⟩,
    ⟨none, .mov (.l 0)⟩] [(2, 0)] []) (
  .block 0 (
  .loop (some [0, 1, 2]) fn310L0))⟩
def fn311L0 : I := .seq (.reg false [⟨none, .bin .lss (.r 9) (.r 8)⟩] [(10, 0)] []) (
  .seq (.cond (.r 10) (
  .skip) (
  .exit 1)) (
  .seq (.block 2 (
  .seq (.reg false [⟨none, .ixa 1 (.r 7) (.r 9)⟩,
    ⟨none, .ld false 1 (.l 0)⟩,
    ⟨none, .mov (.l 0)⟩] [(4, 0)] []) (
  .reg false [⟨none, .mov (.r 3)⟩,
    ⟨none, .bin .shl (.l 0) (.v (.c (.d (.int .u64 8))))⟩,
    ⟨none, .mov (.r 4)⟩,
    ⟨none, .cvi .i64 (.l 0)⟩,
    ⟨none, .bin .or (.l 2) (.l 0)⟩,
    ⟨none, .mov (.l 0)⟩] [(3, 0)] []))) (
  .reg false [⟨none, .bin .add (.r 9) (.v (.c (.d (.int .i64 1))))⟩,
    ⟨none, .mov (.l 0)⟩] [(9, 0)] [])))
def fn311 : Fn := ⟨1, 11, [0, 2, 3, 4, 6, 7, 15, 25, 26, 27, 28], [.r 1, .r 2],
  .seq (.reg false [⟨none, .mov (.v (.c (.d (.int .i64 0))))⟩,
    ⟨none, .mov (.v (.c (.d (.int .i64 0))))⟩] [(1, 1), (2, 0)] []) (
  .seq (.block 0 (
  .seq (.reg false [⟨none, .mov (.r 0)⟩,
    ⟨none, .len (.l 0)⟩,
    ⟨none, .bin .eql (.l 0) (.v (.c (.d (.int .i64 0))))⟩,
    ⟨none, .mov (.l 0)⟩,
    ⟨some (0, false), .mov (.r 0)⟩,
    ⟨some (1, false), .vc 294 [(.l 0)]⟩,
    ⟨none, .pick (.l 2) (.v (.c (.d (.bool true)))) (.l 0)⟩,
    ⟨none, .mov (.l 0)⟩] [(5, 0)] []) (
  .cond (.r 5) (
  .seq (.reg false [⟨none, .mov (.v (.c (.d (.int .i64 0))))⟩,
    ⟨none, .mov (.v (.c (.d (.int .i64 11))))⟩] [(1, 1), (2, 0)] []) (
  .ret)) (
  .seq (.reg false [⟨none, .mov (.r 0)⟩,
    ⟨none, .len (.l 0)⟩,
    ⟨none, .bin .gtr (.l 0) (.v (.c (.d (.int .i64 8))))⟩,
    ⟨none, .mov (.l 0)⟩] [(6, 0)] []) (
  .cond (.r 6) (
  .seq (.reg false [⟨none, .mov (.v (.c (.d (.int .i64 0))))⟩,
    ⟨none, .mov (.v (.c (.d (.int .i64 3))))⟩] [(1, 1), (2, 0)] []) (
  .ret)) (
  .skip)))))) (
  .seq (.reg false [⟨none, .mov (.r 0)⟩,
    ⟨none, .ixa 1 (.l 0) (.v (.c (.d (.int .i64 0))))⟩,
    ⟨none, .ld false 1 (.l 0)⟩,
    ⟨none, .cvi .i8 (.l 0)⟩,
    ⟨none, .cvi .i64 (.l 0)⟩,
    ⟨none, .mov (.l 0)⟩] [(3, 0)] []) (
  .seq (.seq (.reg false [⟨none, .mov (.r 0)⟩,
    ⟨none, .slc 1 (.l 0) (some (.v (.c (.d (.int .i64 1))))) none none⟩,
    ⟨none, .len (.l 0)⟩,
    ⟨none, .mov (.v (.c (.d (.int .i64 0))))⟩] [(7, 2), (8, 1), (9, 0)] []) (
  .block 1 (
  .loop (some [3, 7, 8, 9]) fn311L0))) (
  .seq (.reg false [⟨none, .mov (.r 3)⟩,
    ⟨none, .mov (.l 0)⟩,
    ⟨none, .mov (.v (.c (.d (.int .i64 0))))⟩] [(1, 1), (2, 0)] []) (
  .ret)))))⟩
def fn312L0 : I := .seq (.reg false [⟨none, .bin .lss (.r 5) (.r 4)⟩] [(6, 0)] []) (
  .seq (.cond (.r 6) (
  .skip) (
  .exit 0)) (
  .seq (.block 1 (
  .seq (.reg false [⟨none, .mov (.r 5)⟩,
    ⟨none, .mov (.l 0)⟩] [(3, 0)] []) (
  .seq (.reg false [⟨none, .mov (.r 1)⟩,
    ⟨none, .mov (.r 0)⟩,
    ⟨none, .mov (.r 3)⟩,
    ⟨none, .ixa 1 (.l 1) (.l 0)⟩,
    ⟨none, .ld false 1 (.l 0)⟩,
    ⟨none, .bin .eql (.l 4) (.l 0)⟩] [(7, 0)] []) (
  .cond (.r 7) (
  .seq (.reg false [⟨none, .mov (.r 3)⟩,
    ⟨none, .mov (.l 0)⟩] [(2, 0)] []) (
  .ret)) (
  .skip))))) (
  .reg false [⟨none, .bin .add (.r 5) (.v (.c (.d (.int .i64 1))))⟩,
    ⟨none, .mov (.l 0)⟩] [(5, 0)] [])))
def fn312 : Fn := ⟨2, 8, [0, 1, 4, 5, 7, 8, 9, 16], [.r 2],
  .seq (.reg false [⟨none, .mov (.v (.c (.d (.int .i64 0))))⟩] [(2, 0)] []) (
  .seq (.seq (.reg false [⟨none, .mov (.r 0)⟩,
    ⟨none, .len (.l 0)⟩,
    ⟨none, .mov (.v (.c (.d (.int .i64 0))))⟩] [(4, 1), (5, 0)] []) (
  .block 0 (
  .loop (some [0, 1, 4, 5]) fn312L0))) (
  .seq (.reg false [⟨none, .mov (.v (.c (.d (.int .i64 (-1)))))⟩] [(2, 0)] []) (
  .ret)))⟩
def fn313 : Fn := ⟨1, 9, [0, 1, 2, 3, 4, 5, 12, 16, 22], [.cell 2 3 true, .r 3],
  .seq (.reg false [⟨none, .box (.r 0)⟩,
    ⟨none, .new [.int .u32 0, .nilf, .nilf]⟩,
    ⟨none, .mov (.v (.c (.d (.int .i64 0))))⟩] [(1, 2), (2, 1), (3, 0)] []) (
  .seq (.reg false [⟨none, .fa 0 (.r 1)⟩,
    ⟨none, .ld false 1 (.l 0)⟩,
    ⟨none, .vc 283 [(.l 0)]⟩,
    ⟨none, .mov (.l 0)⟩,
    ⟨none, .ext (.l 0) 0⟩,
    ⟨none, .ext (.l 1) 1⟩,
    ⟨none, .pre⟩,
    ⟨none, .ini 3 (.l 2)⟩,
    ⟨none, .mov (.l 2)⟩] [(4, 1), (5, 0)] []) (
  .seq (.block 0 (
  .seq (.reg false [⟨none, .mov (.r 5)⟩,
    ⟨none, .un .not (.l 0)⟩,
    ⟨none, .mov (.l 0)⟩] [(6, 0)] []) (
  .cond (.r 6) (
  .seq (.reg false [⟨none, .bld [.int .u32 0, .nilf, .nilf] []⟩,
    ⟨none, .st 3 (.r 2) (.l 0)⟩,
    ⟨none, .mov (.v (.c (.d (.int .i64 9))))⟩] [(3, 0)] []) (
  .ret)) (
  .seq (.reg false [⟨none, .fa 1 (.r 1)⟩,
    ⟨none, .ld false 1 (.l 0)⟩,
    ⟨none, .lns (.l 0)⟩,
    ⟨none, .bin .gtr (.l 0) (.v (.c (.d (.int .i64 65536))))⟩,
    ⟨none, .mov (.l 0)⟩] [(7, 0)] []) (
  .cond (.r 7) (
  .seq (.reg false [⟨none, .bld [.int .u32 0, .nilf, .nilf] []⟩,
    ⟨none, .st 3 (.r 2) (.l 0)⟩,
    ⟨none, .mov (.v (.c (.d (.int .i64 3))))⟩] [(3, 0)] []) (
  .ret)) (
  .seq (.reg false [⟨none, .ld true 3 (.r 4)⟩,
    ⟨none, .fa 1 (.r 1)⟩,
    ⟨none, .ld false 1 (.l 0)⟩,
    ⟨none, .vc 323 [(.l 2), (.l 0)]⟩,
    ⟨none, .un .not (.l 0)⟩,
    ⟨none, .mov (.l 0)⟩] [(8, 0)] []) (
  .cond (.r 8) (
  .seq (.reg false [⟨none, .bld [.int .u32 0, .nilf, .nilf] []⟩,
    ⟨none, .st 3 (.r 2) (.l 0)⟩,
    ⟨none, .mov (.v (.c (.d (.int .i64 11))))⟩] [(3, 0)] []) (
  .ret)) (
  .skip)))))))) (
  .seq (.reg false [⟨none, .ld true 3 (.r 4)⟩,
    ⟨none, .st 3 (.r 2) (.l 0)⟩,
    ⟨none, .mov (.v (.c (.d (.int .i64 0))))⟩] [(3, 0)] []) (
  .ret))))⟩
def fn316 : Fn := ⟨2, 5, [0, 1, 2, 3, 4], [.r 4],
  .seq (.reg false [⟨none, .box (.r 0)⟩,
    ⟨none, .box (.r 1)⟩,
    ⟨none, .mov (.v (.c (.d (.nilf))))⟩] [(2, 2), (3, 1), (4, 0)] []) (
  .seq (.reg false [⟨none, .mkf 324 [] [(.r 2), (.r 3)]⟩,
    ⟨none, .mov (.l 0)⟩] [(4, 0)] []) (
  .ret))⟩
def fn317 : Fn := ⟨2, 4, [0, 1, 4, 7], [.r 2],
  .seq (.reg false [⟨none, .mov (.v (.c (.d (.nils))))⟩] [(2, 0)] []) (
  .seq (.seq (.reg false [⟨none, .mov (.r 1)⟩,
    ⟨none, .cvi .u32 (.l 0)⟩,
    ⟨none, .bin .leq (.l 0) (.v (.c (.d (.int .u32 127))))⟩] [(3, 0)] []) (
  .cond (.r 3) (
  .seq (.reg false [⟨none, .mov (.r 0)⟩,
    ⟨none, .mov (.r 1)⟩,
    ⟨none, .cvi .u8 (.l 0)⟩,
    ⟨none, .bsl 1 1 [.int .u8 0] [(0, 1, (.l 0))]⟩,
    ⟨none, .app 1 (.l 3) (.l 0)⟩,
    ⟨none, .mov (.l 0)⟩] [(2, 0)] []) (
  .ret)) (
  .skip))) (
  .seq (.reg false [⟨none, .mov (.r 0)⟩,
    ⟨none, .mov (.r 1)⟩,
    ⟨none, .vc 325 [(.l 1), (.l 0)]⟩,
    ⟨none, .mov (.l 0)⟩] [(2, 0)] []) (
  .ret)))⟩
def fn318 : Fn := ⟨1, 3, [0, 2, 3], [.r 1],
  .seq (.reg false [⟨none, .mov (.v (.c (.d (.bool false))))⟩] [(1, 0)] []) (
  .seq (.block 0 (
  .seq (.seq (.reg false [⟨none, .mov (.r 0)⟩,
    ⟨none, .bin .geq (.l 0) (.v (.c (.d (.int .i32 65))))⟩,
    ⟨none, .mov (.l 0)⟩,
    ⟨some (0, true), .mov (.r 0)⟩,
    ⟨some (1, true), .bin .leq (.l 0) (.v (.c (.d (.int .i32 90))))⟩,
    ⟨none, .pick (.l 2) (.l 0) (.v (.c (.d (.bool false))))⟩,
    ⟨none, .mov (.l 0)⟩] [(2, 0)] []) (
  .cond (.r 2) (
  .skip) (
  .seq (.reg false [⟨none, .mov (.r 0)⟩,
    ⟨none, .bin .geq (.l 0) (.v (.c (.d (.int .i32 97))))⟩,
    ⟨none, .mov (.l 0)⟩,
    ⟨some (0, true), .mov (.r 0)⟩,
    ⟨some (1, true), .bin .leq (.l 0) (.v (.c (.d (.int .i32 122))))⟩,
    ⟨none, .pick (.l 2) (.l 0) (.v (.c (.d (.bool false))))⟩,
    ⟨none, .mov (.l 0)⟩] [(2, 0)] []) (
  .cond (.r 2) (
  .skip) (
  .reg false [⟨none, .mov (.r 0)⟩,
    ⟨none, .bin .geq (.l 0) (.v (.c (.d (.int .i32 48))))⟩,
    ⟨none, .mov (.l 0)⟩,
    ⟨some (0, true), .mov (.r 0)⟩,
    ⟨some (1, true), .bin .leq (.l 0) (.v (.c (.d (.int .i32 57))))⟩,
    ⟨none, .pick (.l 2) (.l 0) (.v (.c (.d (.bool false))))⟩,
    ⟨none, .mov (.l 0)⟩] [(2, 0)] []))))) (
  .cond (.r 2) (
  .seq (.reg false [⟨none, .mov (.v (.c (.d (.bool true))))⟩] [(1, 0)] []) (
  .ret)) (
  .skip)))) (
  .seq (.reg false [⟨none, .mov (.r 0)⟩,
    ⟨none, .vc 298 [(.v (.c (.d (.str [32, 39, 40, 41, 43, 44, 45, 46, 47, 58, 61, 63])))), (.l 0)]⟩,
    ⟨none, .mov (.l 0)⟩] [(1, 0)] []) (
  .ret)))⟩
def fn319 : Fn := ⟨2, 3, [0, 1, 4], [.r 2],
  .seq (.reg false [⟨none, .mov (.v (.c (.d (.nils))))⟩] [(2, 0)] []) (
  .seq (.reg false [⟨none, .mov (.r 0)⟩,
    ⟨none, .mov (.r 1)⟩,
    ⟨none, .cvi .u8 (.l 0)⟩,
    ⟨none, .bsl 1 1 [.int .u8 0] [(0, 1, (.l 0))]⟩,
    ⟨none, .app 1 (.l 3) (.l 0)⟩,
    ⟨none, .mov (.l 0)⟩] [(2, 0)] []) (
  .ret))⟩
def fn320 : Fn := ⟨2, 3, [0, 1, 4], [.r 2],
  .seq (.reg false [⟨none, .mov (.v (.c (.d (.nils))))⟩] [(2, 0)] []) (
  .seq (.reg false [⟨none, .mov (.r 0)⟩,
    ⟨none, .mov (.r 1)⟩,
    ⟨none, .bin .shr (.l 0) (.v (.c (.d (.int .u64 8))))⟩,
    ⟨none, .cvi .u8 (.l 0)⟩,
    ⟨none, .mov (.r 1)⟩,
    ⟨none, .cvi .u8 (.l 0)⟩,
    ⟨none, .bsl 2 1 [.int .u8 0] [(0, 1, (.l 2)), (1, 1, (.l 0))]⟩,
    ⟨none, .app 1 (.l 6) (.l 0)⟩,
    ⟨none, .mov (.l 0)⟩] [(2, 0)] []) (
  .ret))⟩
def fn321L0 : I := .seq (.seq (.reg true [⟨none, .mov (.r 0)⟩,
    ⟨none, .len (.l 0)⟩,
    ⟨none, .bin .gtr (.l 0) (.v (.c (.d (.int .i64 32))))⟩,
    ⟨none, .mov (.l 0)⟩,
    ⟨some (0, true), .mov (.r 0)⟩,
    ⟨some (1, true), .vc 326 [(.l 0)]⟩,
    ⟨some (2, true), .mov (.r 0)⟩,
    ⟨some (3, true), .slc 1 (.l 0) (some (.v (.c (.d (.int .i64 8))))) none none⟩,
    ⟨some (4, true), .vc 326 [(.l 0)]⟩,
    ⟨some (5, true), .bin .or (.l 3) (.l 0)⟩,
    ⟨some (6, true), .mov (.r 0)⟩,
    ⟨some (7, true), .slc 1 (.l 0) (some (.v (.c (.d (.int .i64 16))))) none none⟩,
    ⟨some (8, true), .vc 326 [(.l 0)]⟩,
    ⟨some (9, true), .mov (.r 0)⟩,
    ⟨some (10, true), .slc 1 (.l 0) (some (.v (.c (.d (.int .i64 24))))) none none⟩,
    ⟨some (11, true), .vc 326 [(.l 0)]⟩,
    ⟨some (12, true), .bin .or (.l 3) (.l 0)⟩,
    ⟨some (13, true), .bin .or (.l 7) (.l 0)⟩,
    ⟨some (14, true), .bin .and (.l 0) (.v (.c (.d (.int .u64 9259542123273814144))))⟩,
    ⟨some (15, true), .bin .eql (.l 0) (.v (.c (.d (.int .u64 0))))⟩,
    ⟨none, .pick (.l 16) (.l 0) (.v (.c (.d (.bool false))))⟩] [(10, 0)] []) (
  .cond (.r 10) (
  .skip) (
  .exit 2))) (
  .block 3 (
  .reg false [⟨none, .mov (.r 0)⟩,
    ⟨none, .slc 1 (.l 0) (some (.v (.c (.d (.int .i64 32))))) none none⟩,
    ⟨none, .mov (.l 0)⟩] [(0, 0)] []))
def fn321L1 : I := .seq (.seq (.reg false [⟨none, .mov (.r 0)⟩,
    ⟨none, .len (.l 0)⟩,
    ⟨none, .bin .gtr (.l 0) (.v (.c (.d (.int .i64 0))))⟩] [(6, 0)] []) (
  .cond (.r 6) (
  .skip) (
  .exit 0))) (
  .block 1 (
  .seq (.reg false [⟨none, .mov (.r 0)⟩,
    ⟨none, .ixa 1 (.l 0) (.v (.c (.d (.int .i64 0))))⟩,
    ⟨none, .ld false 1 (.l 0)⟩,
    ⟨none, .mov (.l 0)⟩] [(2, 0)] []) (
  .seq (.seq (.reg false [⟨none, .mov (.r 2)⟩,
    ⟨none, .bin .lss (.l 0) (.v (.c (.d (.int .u8 128))))⟩] [(7, 0)] []) (
  .cond (.r 7) (
  .seq (.reg false [⟨none, .mov (.r 0)⟩,
    ⟨none, .slc 1 (.l 0) (some (.v (.c (.d (.int .i64 1))))) none none⟩,
    ⟨none, .mov (.l 0)⟩] [(0, 0)] []) (
  .seq (.seq (.reg false [⟨none, .mov (.r 0)⟩,
    ⟨none, .len (.l 0)⟩,
    ⟨none, .bin .gtr (.l 0) (.v (.c (.d (.int .i64 8))))⟩,
    ⟨none, .mov (.l 0)⟩,
    ⟨some (0, true), .mov (.r 0)⟩,
    ⟨some (1, true), .vc 326 [(.l 0)]⟩,
    ⟨some (2, true), .bin .and (.l 0) (.v (.c (.d (.int .u64 9259542123273814144))))⟩,
    ⟨some (3, true), .bin .eql (.l 0) (.v (.c (.d (.int .u64 0))))⟩,
    ⟨none, .pick (.l 4) (.l 0) (.v (.c (.d (.bool false))))⟩] [(8, 0)] []) (
  .cond (.r 8) (
  .seq (.reg false [⟨none, .mov (.r 0)⟩,
    ⟨none, .slc 1 (.l 0) (some (.v (.c (.d (.int .i64 8))))) none none⟩,
    ⟨none, .mov (.l 0)⟩] [(0, 0)] []) (
  .seq (.reg true [⟨none, .mov (.r 0)⟩,
    ⟨none, .len (.l 0)⟩,
    ⟨none, .bin .gtr (.l 0) (.v (.c (.d (.int .i64 16))))⟩,
    ⟨none, .mov (.l 0)⟩,
    ⟨some (0, true), .mov (.r 0)⟩,
    ⟨some (1, true), .vc 326 [(.l 0)]⟩,
    ⟨some (2, true), .mov (.r 0)⟩,
    ⟨some (3, true), .slc 1 (.l 0) (some (.v (.c (.d (.int .i64 8))))) none none⟩,
    ⟨some (4, true), .vc 326 [(.l 0)]⟩,
    ⟨some (5, true), .bin .or (.l 3) (.l 0)⟩,
    ⟨some (6, true), .bin .and (.l 0) (.v (.c (.d (.int .u64 9259542123273814144))))⟩,
    ⟨some (7, true), .bin .eql (.l 0) (.v (.c (.d (.int .u64 0))))⟩,
    ⟨none, .pick (.l 8) (.l 0) (.v (.c (.d (.bool false))))⟩] [(9, 0)] []) (
  .cond (.r 9) (
  .seq (.reg false [⟨none, .mov (.r 0)⟩,
    ⟨none, .slc 1 (.l 0) (some (.v (.c (.d (.int .i64 16))))) none none⟩,
    ⟨none, .mov (.l 0)⟩] [(0, 0)] []) (
  .block 2 (
  .loop (some [0]) fn321L0))) (
  .skip)))) (
  .skip))) (
  .exit 1))) (
  .skip))) (
  .seq (.reg false [⟨none, .mov (.r 2)⟩,
    ⟨none, .ixp 256 1 (.g 4) (.l 0)⟩,
    ⟨none, .ld false 1 (.l 0)⟩,
    ⟨none, .mov (.l 0)⟩] [(3, 0)] []) (
  .seq (.reg false [⟨none, .mov (.r 3)⟩,
    ⟨none, .bin .and (.l 0) (.v (.c (.d (.int .u8 7))))⟩,
    ⟨none, .cvi .i64 (.l 0)⟩,
    ⟨none, .mov (.l 0)⟩] [(4, 0)] []) (
  .seq (.reg false [⟨none, .mov (.r 3)⟩,
    ⟨none, .bin .shr (.l 0) (.v (.c (.d (.int .u64 4))))⟩,
    ⟨none, .ixp 16 2 (.g 5) (.l 0)⟩,
    ⟨none, .ld true 2 (.l 0)⟩,
    ⟨none, .pre⟩,
    ⟨none, .ini 2 (.l 1)⟩] [(5, 0)] []) (
  .seq (.reg false [⟨none, .mov (.r 4)⟩] [(11, 0)] []) (
  .block 4 (
  .seq (.reg false [⟨none, .bin .eql (.r 11) (.v (.c (.d (.int .i64 2))))⟩,
    ⟨none, .mov (.l 0)⟩] [(12, 0)] []) (
  .cond (.r 12) (
  .seq (.seq (.reg true [⟨none, .mov (.r 0)⟩,
    ⟨none, .len (.l 0)⟩,
    ⟨none, .bin .lss (.l 0) (.v (.c (.d (.int .i64 2))))⟩,
    ⟨none, .mov (.l 0)⟩,
    ⟨some (0, false), .mov (.r 0)⟩,
    ⟨some (1, false), .ixa 1 (.l 0) (.v (.c (.d (.int .i64 1))))⟩,
    ⟨some (2, false), .ld false 1 (.l 0)⟩,
    ⟨some (3, false), .fa 0 (.r 5)⟩,
    ⟨some (4, false), .ld false 1 (.l 0)⟩,
    ⟨some (5, false), .bin .lss (.l 2) (.l 0)⟩,
    ⟨none, .pick (.l 6) (.v (.c (.d (.bool true)))) (.l 0)⟩,
    ⟨none, .mov (.l 0)⟩,
    ⟨some (0, false), .fa 1 (.r 5)⟩,
    ⟨some (1, false), .ld false 1 (.l 0)⟩,
    ⟨some (2, false), .mov (.r 0)⟩,
    ⟨some (3, false), .ixa 1 (.l 0) (.v (.c (.d (.int .i64 1))))⟩,
    ⟨some (4, false), .ld false 1 (.l 0)⟩,
    ⟨some (5, false), .bin .lss (.l 3) (.l 0)⟩,
    ⟨none, .pick (.l 6) (.v (.c (.d (.bool true)))) (.l 0)⟩] [(13, 0)] []) (
  .cond (.r 13) (
  .seq (.reg false [⟨none, .mov (.v (.c (.d (.bool false))))⟩] [(1, 0)] []) (
  .ret)) (
  .skip))) (
  .reg false [⟨none, .mov (.r 0)⟩,
    ⟨none, .slc 1 (.l 0) (some (.v (.c (.d (.int .i64 2))))) none none⟩,
    ⟨none, .mov (.l 0)⟩] [(0, 0)] [])) (
  .seq (.reg false [⟨none, .bin .eql (.r 11) (.v (.c (.d (.int .i64 3))))⟩,
    ⟨none, .mov (.l 0)⟩] [(14, 0)] []) (
  .cond (.r 14) (
  .seq (.seq (.reg true [⟨none, .mov (.r 0)⟩,
    ⟨none, .len (.l 0)⟩,
    ⟨none, .bin .lss (.l 0) (.v (.c (.d (.int .i64 3))))⟩,
    ⟨none, .mov (.l 0)⟩,
    ⟨some (0, false), .mov (.r 0)⟩,
    ⟨some (1, false), .ixa 1 (.l 0) (.v (.c (.d (.int .i64 1))))⟩,
    ⟨some (2, false), .ld false 1 (.l 0)⟩,
    ⟨some (3, false), .fa 0 (.r 5)⟩,
    ⟨some (4, false), .ld false 1 (.l 0)⟩,
    ⟨some (5, false), .bin .lss (.l 2) (.l 0)⟩,
    ⟨none, .pick (.l 6) (.v (.c (.d (.bool true)))) (.l 0)⟩,
    ⟨none, .mov (.l 0)⟩,
    ⟨some (0, false), .fa 1 (.r 5)⟩,
    ⟨some (1, false), .ld false 1 (.l 0)⟩,
    ⟨some (2, false), .mov (.r 0)⟩,
    ⟨some (3, false), .ixa 1 (.l 0) (.v (.c (.d (.int .i64 1))))⟩,
    ⟨some (4, false), .ld false 1 (.l 0)⟩,
    ⟨some (5, false), .bin .lss (.l 3) (.l 0)⟩,
    ⟨none, .pick (.l 6) (.v (.c (.d (.bool true)))) (.l 0)⟩,
    ⟨none, .mov (.l 0)⟩,
    ⟨some (0, false), .mov (.r 0)⟩,
    ⟨some (1, false), .ixa 1 (.l 0) (.v (.c (.d (.int .i64 2))))⟩,
    ⟨some (2, false), .ld false 1 (.l 0)⟩,
    ⟨some (3, false), .bin .lss (.l 0) (.v (.c (.d (.int .u8 128))))⟩,
    ⟨none, .pick (.l 4) (.v (.c (.d (.bool true)))) (.l 0)⟩,
    ⟨none, .mov (.l 0)⟩,
    ⟨some (0, false), .mov (.r 0)⟩,
    ⟨some (1, false), .ixa 1 (.l 0) (.v (.c (.d (.int .i64 2))))⟩,
    ⟨some (2, false), .ld false 1 (.l 0)⟩,
    ⟨some (3, false), .bin .lss (.v (.c (.d (.int .u8 191)))) (.l 0)⟩,
    ⟨none, .pick (.l 4) (.v (.c (.d (.bool true)))) (.l 0)⟩] [(15, 0)] []) (
  .cond (.r 15) (
  .seq (.reg false [⟨none, .mov (.v (.c (.d (.bool false))))⟩] [(1, 0)] []) (
  .ret)) (
  .skip))) (
  .reg false [⟨none, .mov (.r 0)⟩,
    ⟨none, .slc 1 (.l 0) (some (.v (.c (.d (.int .i64 3))))) none none⟩,
    ⟨none, .mov (.l 0)⟩] [(0, 0)] [])) (
  .seq (.reg false [⟨none, .bin .eql (.r 11) (.v (.c (.d (.int .i64 4))))⟩,
    ⟨none, .mov (.l 0)⟩] [(16, 0)] []) (
  .cond (.r 16) (
  .seq (.seq (.reg true [⟨none, .mov (.r 0)⟩,
    ⟨none, .len (.l 0)⟩,
    ⟨none, .bin .lss (.l 0) (.v (.c (.d (.int .i64 4))))⟩,
    ⟨none, .mov (.l 0)⟩,
    ⟨some (0, false), .mov (.r 0)⟩,
    ⟨some (1, false), .ixa 1 (.l 0) (.v (.c (.d (.int .i64 1))))⟩,
    ⟨some (2, false), .ld false 1 (.l 0)⟩,
    ⟨some (3, false), .fa 0 (.r 5)⟩,
    ⟨some (4, false), .ld false 1 (.l 0)⟩,
    ⟨some (5, false), .bin .lss (.l 2) (.l 0)⟩,
    ⟨none, .pick (.l 6) (.v (.c (.d (.bool true)))) (.l 0)⟩,
    ⟨none, .mov (.l 0)⟩,
    ⟨some (0, false), .fa 1 (.r 5)⟩,
    ⟨some (1, false), .ld false 1 (.l 0)⟩,
    ⟨some (2, false), .mov (.r 0)⟩,
    ⟨some (3, false), .ixa 1 (.l 0) (.v (.c (.d (.int .i64 1))))⟩,
    ⟨some (4, false), .ld false 1 (.l 0)⟩,
    ⟨some (5, false), .bin .lss (.l 3) (.l 0)⟩,
    ⟨none, .pick (.l 6) (.v (.c (.d (.bool true)))) (.l 0)⟩,
    ⟨none, .mov (.l 0)⟩,
    ⟨some (0, false), .mov (.r 0)⟩,
    ⟨some (1, false), .ixa 1 (.l 0) (.v (.c (.d (.int .i64 2))))⟩,
    ⟨some (2, false), .ld false 1 (.l 0)⟩,
    ⟨some (3, false), .bin .lss (.l 0) (.v (.c (.d (.int .u8 128))))⟩,
    ⟨none, .pick (.l 4) (.v (.c (.d (.bool true)))) (.l 0)⟩,
    ⟨none, .mov (.l 0)⟩,
    ⟨some (0, false), .mov (.r 0)⟩,
    ⟨some (1, false), .ixa 1 (.l 0) (.v (.c (.d (.int .i64 2))))⟩,
    ⟨some (2, false), .ld false 1 (.l 0)⟩,
    ⟨some (3, false), .bin .lss (.v (.c (.d (.int .u8 191)))) (.l 0)⟩,
    ⟨none, .pick (.l 4) (.v (.c (.d (.bool true)))) (.l 0)⟩,
    ⟨none, .mov (.l 0)⟩,
    ⟨some (0, false), .mov (.r 0)⟩,
    ⟨some (1, false), .ixa 1 (.l 0) (.v (.c (.d (.int .i64 3))))⟩,
    ⟨some (2, false), .ld false 1 (.l 0)⟩,
    ⟨some (3, false), .bin .lss (.l 0) (.v (.c (.d (.int .u8 128))))⟩,
    ⟨none, .pick (.l 4) (.v (.c (.d (.bool true)))) (.l 0)⟩,
    ⟨none, .mov (.l 0)⟩,
    ⟨some (0, false), .mov (.r 0)⟩,
    ⟨some (1, false), .ixa 1 (.l 0) (.v (.c (.d (.int .i64 3))))⟩,
    ⟨some (2, false), .ld false 1 (.l 0)⟩,
    ⟨some (3, false), .bin .lss (.v (.c (.d (.int .u8 191)))) (.l 0)⟩,
    ⟨none, .pick (.l 4) (.v (.c (.d (.bool true)))) (.l 0)⟩] [(17, 0)] []) (
  .cond (.r 17) (
  .seq (.reg false [⟨none, .mov (.v (.c (.d (.bool false))))⟩] [(1, 0)] []) (
  .ret)) (
  .skip))) (
  .reg false [⟨none, .mov (.r 0)⟩,
    ⟨none, .slc 1 (.l 0) (some (.v (.c (.d (.int .i64 4))))) none none⟩,
    ⟨none, .mov (.l 0)⟩] [(0, 0)] [])) (
  .seq (.reg false [⟨none, .mov (.v (.c (.d (.bool false))))⟩] [(1, 0)] []) (
  .ret))))))))))))))))
def fn321 : Fn := ⟨1, 18, [0, 2, 3, 4, 5, 6, 15, 20, 31, 46, 69, 82, 83, 103, 106, 138, 141, 185], [.r 1],
  .seq (.reg false [⟨none, .mov (.v (.c (.d (.bool false))))⟩] [(1, 0)] []) (
  .seq (.reg false [⟨none, .mov (.r 0)⟩,
    ⟨none, .mov (.r 0)⟩,
    ⟨none, .len (.l 0)⟩,
    ⟨none, .mov (.r 0)⟩,
    ⟨none, .len (.l 0)⟩,
    ⟨none, .slc 1 (.l 4) none (some (.l 2)) (some (.l 0))⟩,
    ⟨none, .mov (.l 0)⟩] [(0, 0)] []) (
  .seq (.block 0 (
  .loop (some [0]) fn321L1)) (
  .seq (.reg false [⟨none, .mov (.v (.c (.d (.bool true))))⟩] [(1, 0)] []) (
  .ret))))⟩
def fn322L0 : I := .seq (.reg false [⟨none, .bin .lss (.r 5) (.r 4)⟩] [(6, 0)] []) (
  .seq (.cond (.r 6) (
  .skip) (
  .exit 0)) (
  .seq (.block 1 (
  .seq (.reg false [⟨none, .mov (.r 5)⟩,
    ⟨none, .mov (.l 0)⟩] [(3, 0)] []) (
  .seq (.reg false [⟨none, .mov (.r 1)⟩,
    ⟨none, .mov (.r 0)⟩,
    ⟨none, .mov (.r 3)⟩,
    ⟨none, .ixa 1 (.l 1) (.l 0)⟩,
    ⟨none, .ld false 1 (.l 0)⟩,
    ⟨none, .hc (.l 4) [(.l 0)]⟩] [(7, 0)] []) (
  .cond (.r 7) (
  .seq (.reg false [⟨none, .mov (.r 3)⟩,
    ⟨none, .mov (.l 0)⟩] [(2, 0)] []) (
  .ret)) (
  .skip))))) (
  .reg false [⟨none, .bin .add (.r 5) (.v (.c (.d (.int .i64 1))))⟩,
    ⟨none, .mov (.l 0)⟩] [(5, 0)] [])))
def fn322 : Fn := ⟨2, 8, [0, 1, 4, 5, 7, 8, 9, 16], [.r 2],
  .seq (.reg false [⟨none, .mov (.v (.c (.d (.int .i64 0))))⟩] [(2, 0)] []) (
  .seq (.seq (.reg false [⟨none, .mov (.r 0)⟩,
    ⟨none, .len (.l 0)⟩,
    ⟨none, .mov (.v (.c (.d (.int .i64 0))))⟩] [(4, 1), (5, 0)] []) (
  .block 0 (
  .loop (some [0, 1, 4, 5]) fn322L0))) (
  .seq (.reg false [⟨none, .mov (.v (.c (.d (.int .i64 (-1)))))⟩] [(2, 0)] []) (
  .ret)))⟩
def fn323L0 : I := .seq (.reg false [⟨none, .nxs (.r 6)⟩,
    ⟨none, .ext (.l 0) 0⟩] [(7, 1), (8, 0)] []) (
  .seq (.cond (.r 8) (
  .skip) (
  .exit 0)) (
  .block 1 (
  .seq (.reg false [⟨none, .ext (.r 7) 2⟩,
    ⟨none, .mov (.l 0)⟩] [(4, 0)] []) (
  .seq (.reg false [⟨none, .fa 1 (.r 2)⟩,
    ⟨none, .ld false 1 (.l 0)⟩,
    ⟨none, .mov (.r 4)⟩,
    ⟨none, .hc (.l 1) [(.l 0)]⟩,
    ⟨none, .un .not (.l 0)⟩] [(9, 0)] []) (
  .cond (.r 9) (
  .seq (.reg false [⟨none, .mov (.v (.c (.d (.bool false))))⟩] [(3, 0)] []) (
  .ret)) (
  .skip))))))
def fn323 : Fn := ⟨2, 10, [0, 1, 2, 4, 6, 9, 11, 12, 13, 19], [.r 3],
  .seq (.reg false [⟨none, .box (.r 0)⟩,
    ⟨none, .mov (.v (.c (.d (.bool false))))⟩] [(2, 1), (3, 0)] []) (
  .seq (.seq (.reg false [⟨none, .mov (.r 1)⟩,
    ⟨none, .vc 195 [(.l 0)]⟩,
    ⟨none, .un .not (.l 0)⟩] [(5, 0)] []) (
  .cond (.r 5) (
  .seq (.reg false [⟨none, .mov (.v (.c (.d (.bool false))))⟩] [(3, 0)] []) (
  .ret)) (
  .skip))) (
  .seq (.seq (.reg false [⟨none, .mov (.r 1)⟩,
    ⟨none, .rgs (.l 0)⟩] [(6, 0)] []) (
  .block 0 (
  .loop (some [2, 6]) fn323L0))) (
  .seq (.reg false [⟨none, .mov (.v (.c (.d (.bool true))))⟩] [(3, 0)] []) (
  .ret))))⟩
def fn324 : Fn := ⟨3, 4, [0, 1, 2, 4], [.r 3],
  .seq (.reg false [⟨none, .mov (.v (.c (.d (.bool false))))⟩] [(3, 0)] []) (
  .seq (.reg false [⟨none, .mov (.r 0)⟩,
    ⟨none, .ld false 1 (.r 1)⟩,
    ⟨none, .bin .geq (.l 1) (.l 0)⟩,
    ⟨none, .mov (.l 0)⟩,
    ⟨some (0, true), .mov (.r 0)⟩,
    ⟨some (1, true), .ld false 1 (.r 2)⟩,
    ⟨some (2, true), .bin .leq (.l 1) (.l 0)⟩,
    ⟨none, .pick (.l 3) (.l 0) (.v (.c (.d (.bool false))))⟩,
    ⟨none, .mov (.l 0)⟩] [(3, 0)] []) (
  .ret))⟩
def fn325 : Fn := ⟨2, 7, [0, 1, 4, 5, 11, 25, 50], [.r 2],
  .seq (.reg false [⟨none, .mov (.v (.c (.d (.nils))))⟩] [(2, 0)] []) (
  .seq (.reg false [⟨none, .mov (.r 1)⟩,
    ⟨none, .cvi .u32 (.l 0)⟩,
    ⟨none, .mov (.l 0)⟩] [(3, 0)] []) (
  .block 0 (
  .seq (.reg false [⟨none, .mov (.r 3)⟩,
    ⟨none, .bin .leq (.l 0) (.v (.c (.d (.int .u32 2047))))⟩,
    ⟨none, .mov (.l 0)⟩] [(4, 0)] []) (
  .cond (.r 4) (
  .seq (.reg false [⟨none, .mov (.r 0)⟩,
    ⟨none, .mov (.r 1)⟩,
    ⟨none, .bin .shr (.l 0) (.v (.c (.d (.int .u64 6))))⟩,
    ⟨none, .cvi .u8 (.l 0)⟩,
    ⟨none, .bin .or (.v (.c (.d (.int .u8 192)))) (.l 0)⟩,
    ⟨none, .mov (.r 1)⟩,
    ⟨none, .cvi .u8 (.l 0)⟩,
    ⟨none, .bin .and (.l 0) (.v (.c (.d (.int .u8 63))))⟩,
    ⟨none, .bin .or (.v (.c (.d (.int .u8 128)))) (.l 0)⟩,
    ⟨none, .bsl 2 1 [.int .u8 0] [(0, 1, (.l 4)), (1, 1, (.l 0))]⟩,
    ⟨none, .app 1 (.l 9) (.l 0)⟩,
    ⟨none, .mov (.l 0)⟩] [(2, 0)] []) (
  .ret)) (
  .seq (.seq (.reg false [⟨none, .mov (.r 3)⟩,
    ⟨none, .bin .lss (.l 0) (.v (.c (.d (.int .u32 55296))))⟩,
    ⟨none, .mov (.l 0)⟩] [(5, 0)] []) (
  .cond (.r 5) (
  .skip) (
  .reg false [⟨none, .mov (.r 3)⟩,
    ⟨none, .bin .lss (.v (.c (.d (.int .u32 57343)))) (.l 0)⟩,
    ⟨none, .mov (.l 0)⟩,
    ⟨some (0, true), .mov (.r 3)⟩,
    ⟨some (1, true), .bin .leq (.l 0) (.v (.c (.d (.int .u32 65535))))⟩,
    ⟨none, .pick (.l 2) (.l 0) (.v (.c (.d (.bool false))))⟩,
    ⟨none, .mov (.l 0)⟩] [(5, 0)] []))) (
  .cond (.r 5) (
  .seq (.reg false [⟨none, .mov (.r 0)⟩,
    ⟨none, .mov (.r 1)⟩,
    ⟨none, .bin .shr (.l 0) (.v (.c (.d (.int .u64 12))))⟩,
    ⟨none, .cvi .u8 (.l 0)⟩,
    ⟨none, .bin .or (.v (.c (.d (.int .u8 224)))) (.l 0)⟩,
    ⟨none, .mov (.r 1)⟩,
    ⟨none, .bin .shr (.l 0) (.v (.c (.d (.int .u64 6))))⟩,
    ⟨none, .cvi .u8 (.l 0)⟩,
    ⟨none, .bin .and (.l 0) (.v (.c (.d (.int .u8 63))))⟩,
    ⟨none, .bin .or (.v (.c (.d (.int .u8 128)))) (.l 0)⟩,
    ⟨none, .mov (.r 1)⟩,
    ⟨none, .cvi .u8 (.l 0)⟩,
    ⟨none, .bin .and (.l 0) (.v (.c (.d (.int .u8 63))))⟩,
    ⟨none, .bin .or (.v (.c (.d (.int .u8 128)))) (.l 0)⟩,
    ⟨none, .bsl 3 1 [.int .u8 0] [(0, 1, (.l 9)), (1, 1, (.l 4)), (2, 1, (.l 0))]⟩,
    ⟨none, .app 1 (.l 14) (.l 0)⟩,
    ⟨none, .mov (.l 0)⟩] [(2, 0)] []) (
  .ret)) (
  .seq (.reg false [⟨none, .mov (.r 3)⟩,
    ⟨none, .bin .gtr (.l 0) (.v (.c (.d (.int .u32 65535))))⟩,
    ⟨none, .mov (.l 0)⟩,
    ⟨some (0, true), .mov (.r 3)⟩,
    ⟨some (1, true), .bin .leq (.l 0) (.v (.c (.d (.int .u32 1114111))))⟩,
    ⟨none, .pick (.l 2) (.l 0) (.v (.c (.d (.bool false))))⟩,
    ⟨none, .mov (.l 0)⟩] [(6, 0)] []) (
  .cond (.r 6) (
  .seq (.reg false [⟨none, .mov (.r 0)⟩,
    ⟨none, .mov (.r 1)⟩,
    ⟨none, .bin .shr (.l 0) (.v (.c (.d (.int .u64 18))))⟩,
    ⟨none, .cvi .u8 (.l 0)⟩,
    ⟨none, .bin .or (.v (.c (.d (.int .u8 240)))) (.l 0)⟩,
    ⟨none, .mov (.r 1)⟩,
    ⟨none, .bin .shr (.l 0) (.v (.c (.d (.int .u64 12))))⟩,
    ⟨none, .cvi .u8 (.l 0)⟩,
    ⟨none, .bin .and (.l 0) (.v (.c (.d (.int .u8 63))))⟩,
    ⟨none, .bin .or (.v (.c (.d (.int .u8 128)))) (.l 0)⟩,
    ⟨none, .mov (.r 1)⟩,
    ⟨none, .bin .shr (.l 0) (.v (.c (.d (.int .u64 6))))⟩,
    ⟨none, .cvi .u8 (.l 0)⟩,
    ⟨none, .bin .and (.l 0) (.v (.c (.d (.int .u8 63))))⟩,
    ⟨none, .bin .or (.v (.c (.d (.int .u8 128)))) (.l 0)⟩,
    ⟨none, .mov (.r 1)⟩,
    ⟨none, .cvi .u8 (.l 0)⟩,
    ⟨none, .bin .and (.l 0) (.v (.c (.d (.int .u8 63))))⟩,
    ⟨none, .bin .or (.v (.c (.d (.int .u8 128)))) (.l 0)⟩,
    ⟨none, .bsl 4 1 [.int .u8 0] [(0, 1, (.l 14)), (1, 1, (.l 9)), (2, 1, (.l 4)), (3, 1, (.l 0))]⟩,
    ⟨none, .app 1 (.l 19) (.l 0)⟩,
    ⟨none, .mov (.l 0)⟩] [(2, 0)] []) (
  .ret)) (
  .seq (.reg false [⟨none, .mov (.r 0)⟩,
    ⟨none, .bsl 3 1 [.int .u8 0] [(0, 1, (.v (.c (.d (.int .u8 239))))), (1, 1, (.v (.c (.d (.int .u8 191))))), (2, 1, (.v (.c (.d (.int .u8 189)))))]⟩,
    ⟨none, .app 1 (.l 1) (.l 0)⟩,
    ⟨none, .mov (.l 0)⟩] [(2, 0)] []) (
  .ret))))))))))⟩
def fn326 : Fn := ⟨1, 2, [0, 2], [.r 1],
  .seq (.reg false [⟨none, .mov (.v (.c (.d (.int .u64 0))))⟩] [(1, 0)] []) (
  .seq (.cond (.v (.c (.d (.bool false)))) (
  .seq (.reg true [⟨none, .mov (.r 0)⟩,
    ⟨none, .ixa 1 (.l 0) (.v (.c (.d (.int .i64 0))))⟩,
    ⟨none, .ld false 1 (.l 0)⟩,
    ⟨none, .cvi .u64 (.l 0)⟩,
    ⟨none, .mov (.r 0)⟩,
    ⟨none, .ixa 1 (.l 0) (.v (.c (.d (.int .i64 1))))⟩,
    ⟨none, .ld false 1 (.l 0)⟩,
    ⟨none, .cvi .u64 (.l 0)⟩,
    ⟨none, .bin .shl (.l 0) (.v (.c (.d (.int .u64 8))))⟩,
    ⟨none, .bin .or (.l 5) (.l 0)⟩,
    ⟨none, .mov (.r 0)⟩,
    ⟨none, .ixa 1 (.l 0) (.v (.c (.d (.int .i64 2))))⟩,
    ⟨none, .ld false 1 (.l 0)⟩,
    ⟨none, .cvi .u64 (.l 0)⟩,
    ⟨none, .bin .shl (.l 0) (.v (.c (.d (.int .u64 16))))⟩,
    ⟨none, .bin .or (.l 5) (.l 0)⟩,
    ⟨none, .mov (.r 0)⟩,
    ⟨none, .ixa 1 (.l 0) (.v (.c (.d (.int .i64 3))))⟩,
    ⟨none, .ld false 1 (.l 0)⟩,
    ⟨none, .cvi .u64 (.l 0)⟩,
    ⟨none, .bin .shl (.l 0) (.v (.c (.d (.int .u64 24))))⟩,
    ⟨none, .bin .or (.l 5) (.l 0)⟩,
    ⟨none, .mov (.l 0)⟩] [(1, 0)] []) (
  .ret)) (
  .skip)) (
  .seq (.reg true [⟨none, .mov (.r 0)⟩,
    ⟨none, .ixa 1 (.l 0) (.v (.c (.d (.int .i64 0))))⟩,
    ⟨none, .ld false 1 (.l 0)⟩,
    ⟨none, .cvi .u64 (.l 0)⟩,
    ⟨none, .mov (.r 0)⟩,
    ⟨none, .ixa 1 (.l 0) (.v (.c (.d (.int .i64 1))))⟩,
    ⟨none, .ld false 1 (.l 0)⟩,
    ⟨none, .cvi .u64 (.l 0)⟩,
    ⟨none, .bin .shl (.l 0) (.v (.c (.d (.int .u64 8))))⟩,
    ⟨none, .bin .or (.l 5) (.l 0)⟩,
    ⟨none, .mov (.r 0)⟩,
    ⟨none, .ixa 1 (.l 0) (.v (.c (.d (.int .i64 2))))⟩,
    ⟨none, .ld false 1 (.l 0)⟩,
    ⟨none, .cvi .u64 (.l 0)⟩,
    ⟨none, .bin .shl (.l 0) (.v (.c (.d (.int .u64 16))))⟩,
    ⟨none, .bin .or (.l 5) (.l 0)⟩,
    ⟨none, .mov (.r 0)⟩,
    ⟨none, .ixa 1 (.l 0) (.v (.c (.d (.int .i64 3))))⟩,
    ⟨none, .ld false 1 (.l 0)⟩,
    ⟨none, .cvi .u64 (.l 0)⟩,
    ⟨none, .bin .shl (.l 0) (.v (.c (.d (.int .u64 24))))⟩,
    ⟨none, .bin .or (.l 5) (.l 0)⟩,
    ⟨none, .mov (.r 0)⟩,
    ⟨none, .ixa 1 (.l 0) (.v (.c (.d (.int .i64 4))))⟩,
    ⟨none, .ld false 1 (.l 0)⟩,
    ⟨none, .cvi .u64 (.l 0)⟩,
    ⟨none, .bin .shl (.l 0) (.v (.c (.d (.int .u64 32))))⟩,
    ⟨none, .bin .or (.l 5) (.l 0)⟩,
    ⟨none, .mov (.r 0)⟩,
    ⟨none, .ixa 1 (.l 0) (.v (.c (.d (.int .i64 5))))⟩,
    ⟨none, .ld false 1 (.l 0)⟩,
    ⟨none, .cvi .u64 (.l 0)⟩,
    ⟨none, .bin .shl (.l 0) (.v (.c (.d (.int .u64 40))))⟩,
    ⟨none, .bin .or (.l 5) (.l 0)⟩,
    ⟨none, .mov (.r 0)⟩,
    ⟨none, .ixa 1 (.l 0) (.v (.c (.d (.int .i64 6))))⟩,
    ⟨none, .ld false 1 (.l 0)⟩,
    ⟨none, .cvi .u64 (.l 0)⟩,
    ⟨none, .bin .shl (.l 0) (.v (.c (.d (.int .u64 48))))⟩,
    ⟨none, .bin .or (.l 5) (.l 0)⟩,
    ⟨none, .mov (.r 0)⟩,
    ⟨none, .ixa 1 (.l 0) (.v (.c (.d (.int .i64 7))))⟩,
    ⟨none, .ld false 1 (.l 0)⟩,
    ⟨none, .cvi .u64 (.l 0)⟩,
    ⟨none, .bin .shl (.l 0) (.v (.c (.d (.int .u64 56))))⟩,
    ⟨none, .bin .or (.l 5) (.l 0)⟩,
    ⟨none, .mov (.l 0)⟩] [(1, 0)] []) (
  .ret)))⟩
def tabS : List (FuncId × Fn) := [(10, fn10),
  (11, fn11),
  (12, fn12),
  (14, fn14),
  (15, fn15),
  (16, fn16),
  (17, fn17),
  (18, fn18),
  (19, fn19),
  (20, fn20),
  (21, fn21),
  (23, fn23),
  (25, fn25),
  (26, fn26),
  (28, fn28),
  (32, fn32),
  (41, fn41),
  (42, fn42),
  (46, fn46),
  (47, fn47),
  (48, fn48),
  (50, fn50),
  (51, fn51),
  (52, fn52),
  (53, fn53),
  (54, fn54),
  (55, fn55),
  (56, fn56),
  (57, fn57),
  (59, fn59),
  (61, fn61),
  (63, fn63),
  (64, fn64),
  (65, fn65),
  (66, fn66),
  (67, fn67),
  (74, fn74),
  (75, fn75),
  (76, fn76),
  (77, fn77),
  (79, fn79),
  (80, fn80),
  (81, fn81),
  (82, fn82),
  (83, fn83),
  (84, fn84),
  (85, fn85),
  (86, fn86),
  (87, fn87),
  (88, fn88),
  (89, fn89),
  (90, fn90),
  (91, fn91),
  (92, fn92),
  (93, fn93),
  (94, fn94),
  (95, fn95),
  (96, fn96),
  (98, fn98),
  (101, fn101),
  (102, fn102),
  (103, fn103),
  (104, fn104),
  (105, fn105),
  (106, fn106),
  (107, fn107),
  (108, fn108),
  (109, fn109),
  (114, fn114),
  (115, fn115),
  (116, fn116),
  (117, fn117),
  (121, fn121),
  (123, fn123),
  (124, fn124),
  (126, fn126),
  (127, fn127),
  (128, fn128),
  (130, fn130),
  (131, fn131),
  (132, fn132),
  (135, fn135),
  (136, fn136),
  (137, fn137),
  (138, fn138),
  (139, fn139),
  (140, fn140),
  (151, fn151),
  (152, fn152),
  (153, fn153),
  (154, fn154),
  (156, fn156),
  (158, fn158),
  (159, fn159),
  (160, fn160),
  (161, fn161),
  (162, fn162),
  (163, fn163),
  (165, fn165),
  (173, fn173),
  (174, fn174),
  (175, fn175),
  (180, fn180),
  (181, fn181),
  (182, fn182),
  (186, fn186),
  (187, fn187),
  (188, fn188),
  (189, fn189),
  (190, fn190),
  (191, fn191),
  (195, fn195),
  (197, fn197),
  (198, fn198),
  (199, fn199),
  (200, fn200),
  (201, fn201),
  (202, fn202),
  (203, fn203),
  (204, fn204),
  (205, fn205),
  (206, fn206),
  (207, fn207),
  (208, fn208),
  (209, fn209),
  (214, fn214),
  (215, fn215),
  (216, fn216),
  (217, fn217),
  (218, fn218),
  (225, fn225),
  (228, fn228),
  (230, fn230),
  (233, fn233),
  (235, fn235),
  (236, fn236),
  (239, fn239),
  (240, fn240),
  (241, fn241),
  (242, fn242),
  (243, fn243),
  (244, fn244),
  (245, fn245),
  (246, fn246),
  (249, fn249),
  (250, fn250),
  (251, fn251),
  (252, fn252),
  (253, fn253),
  (254, fn254),
  (260, fn260),
  (261, fn261),
  (273, fn273),
  (274, fn274),
  (275, fn275),
  (276, fn276),
  (277, fn277),
  (278, fn278),
  (282, fn282),
  (283, fn283),
  (284, fn284),
  (285, fn285),
  (286, fn286),
  (287, fn287),
  (288, fn288),
  (289, fn289),
  (290, fn290),
  (291, fn291),
  (292, fn292),
  (293, fn293),
  (294, fn294),
  (298, fn298),
  (300, fn300),
  (301, fn301),
  (303, fn303),
  (304, fn304),
  (305, fn305),
  (306, fn306),
  (307, fn307),
  (308, fn308),
  (309, fn309),
  (310, fn310),
  (311, fn311),
  (312, fn312),
  (313, fn313),
  (316, fn316),
  (317, fn317),
  (318, fn318),
  (319, fn319),
  (320, fn320),
  (321, fn321),
  (322, fn322),
  (323, fn323),
  (324, fn324),
  (325, fn325),
  (326, fn326)]
def fnsS (f : FuncId) : Option Fn := tabS.lookup f
end Mini
end Go.Proofs.YtjnghfhccjogeaaGreatDoor
