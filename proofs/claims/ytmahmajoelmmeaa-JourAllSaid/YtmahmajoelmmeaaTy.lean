/- Facts on the types of the program, by evaluation. No condition. Printed by a program of ours. -/
import Derived.Test.YtmahmajoelmmeaaVmC
import Derived.Test.YtmahmajoelmmeaaChecked
import Derived.KernelRfl
namespace Go.VM
open Go.Proofs
-- 1: func()
theorem tA1 : tyAgg Try.prog 1 = some false := by kernel_rfl
theorem tS1 : tySize Try.prog 1 = 1 := by kernel_rfl
-- 2: int64
theorem tA2 : tyAgg Try.prog 2 = some false := by kernel_rfl
theorem tS2 : tySize Try.prog 2 = 1 := by kernel_rfl
theorem tZ2 : zeroCells Try.prog 2 = some [.d (.int .i64 0)] := by kernel_rfl
theorem tD2 : zeroD Try.prog 2 = some (.int .i64 0) := by kernel_rfl
theorem tM2 : zeroM Try.prog 2 = some (.int .i64 0) := by kernel_rfl
theorem tT2 : tyStr Try.prog 2 = false := by kernel_rfl
theorem tI2 : tyInt Try.prog 2 = some .i64 := by kernel_rfl
theorem tK2 : tyKey Try.prog 2 = some (some .i64) := by kernel_rfl
theorem tB2 : tyBy Try.prog 2 = false := by kernel_rfl
theorem tN2 : tyElem Try.prog 2 = none := by kernel_rfl
-- 3: int
theorem tA3 : tyAgg Try.prog 3 = some false := by kernel_rfl
theorem tS3 : tySize Try.prog 3 = 1 := by kernel_rfl
theorem tZ3 : zeroCells Try.prog 3 = some [.d (.int .i64 0)] := by kernel_rfl
theorem tD3 : zeroD Try.prog 3 = some (.int .i64 0) := by kernel_rfl
theorem tM3 : zeroM Try.prog 3 = some (.int .i64 0) := by kernel_rfl
theorem tT3 : tyStr Try.prog 3 = false := by kernel_rfl
theorem tI3 : tyInt Try.prog 3 = some .i64 := by kernel_rfl
theorem tK3 : tyKey Try.prog 3 = some (some .i64) := by kernel_rfl
theorem tB3 : tyBy Try.prog 3 = false := by kernel_rfl
theorem tN3 : tyElem Try.prog 3 = none := by kernel_rfl
-- 4: bool
theorem tA4 : tyAgg Try.prog 4 = some false := by kernel_rfl
theorem tS4 : tySize Try.prog 4 = 1 := by kernel_rfl
theorem tZ4 : zeroCells Try.prog 4 = some [.d (.bool false)] := by kernel_rfl
theorem tD4 : zeroD Try.prog 4 = some (.bool false) := by kernel_rfl
theorem tM4 : zeroM Try.prog 4 = some (.bool false) := by kernel_rfl
theorem tT4 : tyStr Try.prog 4 = false := by kernel_rfl
theorem tB4 : tyBy Try.prog 4 = false := by kernel_rfl
theorem tN4 : tyElem Try.prog 4 = none := by kernel_rfl
-- 5: uint8
theorem tA5 : tyAgg Try.prog 5 = some false := by kernel_rfl
theorem tS5 : tySize Try.prog 5 = 1 := by kernel_rfl
theorem tZ5 : zeroCells Try.prog 5 = some [.d (.int .u8 0)] := by kernel_rfl
theorem tD5 : zeroD Try.prog 5 = some (.int .u8 0) := by kernel_rfl
theorem tM5 : zeroM Try.prog 5 = some (.int .u8 0) := by kernel_rfl
theorem tT5 : tyStr Try.prog 5 = false := by kernel_rfl
theorem tI5 : tyInt Try.prog 5 = some .u8 := by kernel_rfl
theorem tK5 : tyKey Try.prog 5 = some (some .u8) := by kernel_rfl
theorem tB5 : tyBy Try.prog 5 = false := by kernel_rfl
theorem tN5 : tyElem Try.prog 5 = none := by kernel_rfl
-- 9: string
theorem tA9 : tyAgg Try.prog 9 = some false := by kernel_rfl
theorem tS9 : tySize Try.prog 9 = 1 := by kernel_rfl
theorem tZ9 : zeroCells Try.prog 9 = some [.d (.str [])] := by kernel_rfl
theorem tD9 : zeroD Try.prog 9 = some (.str []) := by kernel_rfl
theorem tM9 : zeroM Try.prog 9 = some (.str []) := by kernel_rfl
theorem tT9 : tyStr Try.prog 9 = true := by kernel_rfl
theorem tK9 : tyKey Try.prog 9 = some none := by kernel_rfl
theorem tB9 : tyBy Try.prog 9 = false := by kernel_rfl
theorem tN9 : tyElem Try.prog 9 = none := by kernel_rfl
-- 12: uintptr
theorem tA12 : tyAgg Try.prog 12 = some false := by kernel_rfl
theorem tS12 : tySize Try.prog 12 = 1 := by kernel_rfl
theorem tZ12 : zeroCells Try.prog 12 = some [.d (.int .u64 0)] := by kernel_rfl
theorem tD12 : zeroD Try.prog 12 = some (.int .u64 0) := by kernel_rfl
theorem tM12 : zeroM Try.prog 12 = some (.int .u64 0) := by kernel_rfl
theorem tT12 : tyStr Try.prog 12 = false := by kernel_rfl
theorem tI12 : tyInt Try.prog 12 = some .u64 := by kernel_rfl
theorem tK12 : tyKey Try.prog 12 = some (some .u64) := by kernel_rfl
theorem tB12 : tyBy Try.prog 12 = false := by kernel_rfl
theorem tN12 : tyElem Try.prog 12 = none := by kernel_rfl
-- 21: int32
theorem tA21 : tyAgg Try.prog 21 = some false := by kernel_rfl
theorem tS21 : tySize Try.prog 21 = 1 := by kernel_rfl
theorem tZ21 : zeroCells Try.prog 21 = some [.d (.int .i32 0)] := by kernel_rfl
theorem tD21 : zeroD Try.prog 21 = some (.int .i32 0) := by kernel_rfl
theorem tM21 : zeroM Try.prog 21 = some (.int .i32 0) := by kernel_rfl
theorem tT21 : tyStr Try.prog 21 = false := by kernel_rfl
theorem tI21 : tyInt Try.prog 21 = some .i32 := by kernel_rfl
theorem tK21 : tyKey Try.prog 21 = some (some .i32) := by kernel_rfl
theorem tB21 : tyBy Try.prog 21 = false := by kernel_rfl
theorem tN21 : tyElem Try.prog 21 = none := by kernel_rfl
-- 22: []uint8
theorem tA22 : tyAgg Try.prog 22 = some false := by kernel_rfl
theorem tS22 : tySize Try.prog 22 = 1 := by kernel_rfl
theorem tZ22 : zeroCells Try.prog 22 = some [.lit []] := by kernel_rfl
theorem tD22 : zeroD Try.prog 22 = some (.sl []) := by kernel_rfl
theorem tM22 : zeroM Try.prog 22 = some (.sl []) := by kernel_rfl
theorem tT22 : tyStr Try.prog 22 = false := by kernel_rfl
theorem tB22 : tyBy Try.prog 22 = true := by kernel_rfl
theorem tE22 : tyElem Try.prog 22 = some (5, 1) := by kernel_rfl
theorem tEs22 : esz Try.prog 22 = some 1 := by kernel_rfl
theorem tEz22 : ezero Try.prog 22 = true := by kernel_rfl
theorem tMk22 : mkZ Try.prog 22 = some (1, 1, .int .u8 0) := by kernel_rfl
theorem tAp22 : appK Try.prog 22 22 = some (1, 1) := by kernel_rfl
theorem tMb22 : mkBy Try.prog 22 = true := by kernel_rfl
theorem tAp22_9 : appK Try.prog 22 9 = some (1, 1) := by kernel_rfl
-- 23: []int
theorem tA23 : tyAgg Try.prog 23 = some false := by kernel_rfl
theorem tS23 : tySize Try.prog 23 = 1 := by kernel_rfl
theorem tZ23 : zeroCells Try.prog 23 = some [.lit []] := by kernel_rfl
theorem tD23 : zeroD Try.prog 23 = some (.sl []) := by kernel_rfl
theorem tM23 : zeroM Try.prog 23 = some (.sl []) := by kernel_rfl
theorem tT23 : tyStr Try.prog 23 = false := by kernel_rfl
theorem tB23 : tyBy Try.prog 23 = false := by kernel_rfl
theorem tE23 : tyElem Try.prog 23 = some (3, 1) := by kernel_rfl
theorem tEs23 : esz Try.prog 23 = some 1 := by kernel_rfl
theorem tEz23 : ezero Try.prog 23 = true := by kernel_rfl
theorem tMk23 : mkZ Try.prog 23 = some (1, 8, .int .i64 0) := by kernel_rfl
theorem tAp23 : appK Try.prog 23 23 = some (1, 8) := by kernel_rfl
-- 24: struct { Name string; Size int; Places []int }
theorem tA24 : tyAgg Try.prog 24 = some true := by kernel_rfl
theorem tS24 : tySize Try.prog 24 = 3 := by kernel_rfl
theorem tZ24 : zeroCells Try.prog 24 = some [.d (.str []), .d (.int .i64 0), .lit []] := by kernel_rfl
theorem tD24 : zeroD Try.prog 24 = some (.agg [.str [], .int .i64 0, .sl []]) := by kernel_rfl
theorem tM24 : zeroM Try.prog 24 = some (.agg [.str [], .int .i64 0, .sl []]) := by kernel_rfl
theorem tT24 : tyStr Try.prog 24 = false := by kernel_rfl
theorem tB24 : tyBy Try.prog 24 = false := by kernel_rfl
theorem tN24 : tyElem Try.prog 24 = none := by kernel_rfl
theorem tF24_0 : tyField Try.prog 24 0 = some (0, 9, 1) := by kernel_rfl
theorem tF24_1 : tyField Try.prog 24 1 = some (1, 3, 1) := by kernel_rfl
theorem tF24_2 : tyField Try.prog 24 2 = some (2, 23, 1) := by kernel_rfl
theorem tFs24 : tyFields Try.prog 24 = some [(0, 1), (1, 1), (2, 1)] := by kernel_rfl
-- 25: apostille/node.Node
theorem tA25 : tyAgg Try.prog 25 = some true := by kernel_rfl
theorem tS25 : tySize Try.prog 25 = 3 := by kernel_rfl
theorem tZ25 : zeroCells Try.prog 25 = some [.d (.str []), .d (.int .i64 0), .lit []] := by kernel_rfl
theorem tD25 : zeroD Try.prog 25 = some (.agg [.str [], .int .i64 0, .sl []]) := by kernel_rfl
theorem tM25 : zeroM Try.prog 25 = some (.agg [.str [], .int .i64 0, .sl []]) := by kernel_rfl
theorem tT25 : tyStr Try.prog 25 = false := by kernel_rfl
theorem tB25 : tyBy Try.prog 25 = false := by kernel_rfl
theorem tN25 : tyElem Try.prog 25 = none := by kernel_rfl
theorem tF25_0 : tyField Try.prog 25 0 = some (0, 9, 1) := by kernel_rfl
theorem tF25_1 : tyField Try.prog 25 1 = some (1, 3, 1) := by kernel_rfl
theorem tF25_2 : tyField Try.prog 25 2 = some (2, 23, 1) := by kernel_rfl
theorem tFs25 : tyFields Try.prog 25 = some [(0, 1), (1, 1), (2, 1)] := by kernel_rfl
-- 27: func([]uint8) (node.Node, bool, bool)
theorem tA27 : tyAgg Try.prog 27 = some false := by kernel_rfl
theorem tS27 : tySize Try.prog 27 = 1 := by kernel_rfl
-- 28: apostille/apostilleref3.Node
theorem tA28 : tyAgg Try.prog 28 = some true := by kernel_rfl
theorem tS28 : tySize Try.prog 28 = 3 := by kernel_rfl
theorem tZ28 : zeroCells Try.prog 28 = some [.d (.str []), .d (.int .i64 0), .lit []] := by kernel_rfl
theorem tD28 : zeroD Try.prog 28 = some (.agg [.str [], .int .i64 0, .sl []]) := by kernel_rfl
theorem tM28 : zeroM Try.prog 28 = some (.agg [.str [], .int .i64 0, .sl []]) := by kernel_rfl
theorem tT28 : tyStr Try.prog 28 = false := by kernel_rfl
theorem tB28 : tyBy Try.prog 28 = false := by kernel_rfl
theorem tN28 : tyElem Try.prog 28 = none := by kernel_rfl
theorem tF28_0 : tyField Try.prog 28 0 = some (0, 9, 1) := by kernel_rfl
theorem tF28_1 : tyField Try.prog 28 1 = some (1, 3, 1) := by kernel_rfl
theorem tF28_2 : tyField Try.prog 28 2 = some (2, 23, 1) := by kernel_rfl
theorem tFs28 : tyFields Try.prog 28 = some [(0, 1), (1, 1), (2, 1)] := by kernel_rfl
-- 30: func([]uint8) (apostilleref3.Node, bool, bool)
theorem tA30 : tyAgg Try.prog 30 = some false := by kernel_rfl
theorem tS30 : tySize Try.prog 30 = 1 := by kernel_rfl
-- 31: func(apostilleref3.Node, apostilleref3.Node) bool
theorem tA31 : tyAgg Try.prog 31 = some false := by kernel_rfl
theorem tS31 : tySize Try.prog 31 = 1 := by kernel_rfl
-- 32: func(node.Node) apostilleref3.Node
theorem tA32 : tyAgg Try.prog 32 = some false := by kernel_rfl
theorem tS32 : tySize Try.prog 32 = 1 := by kernel_rfl
-- 33: func() bool
theorem tA33 : tyAgg Try.prog 33 = some false := by kernel_rfl
theorem tS33 : tySize Try.prog 33 = 1 := by kernel_rfl
-- 34: func([]uint8) bool
theorem tA34 : tyAgg Try.prog 34 = some false := by kernel_rfl
theorem tS34 : tySize Try.prog 34 = 1 := by kernel_rfl
-- 35: func(apostilleref3.Node) bool
theorem tA35 : tyAgg Try.prog 35 = some false := by kernel_rfl
theorem tS35 : tySize Try.prog 35 = 1 := by kernel_rfl
-- 36: func(apostilleref3.Node) []uint8
theorem tA36 : tyAgg Try.prog 36 = some false := by kernel_rfl
theorem tS36 : tySize Try.prog 36 = 1 := by kernel_rfl
-- 37: func(string, []int, int, uint8) bool
theorem tA37 : tyAgg Try.prog 37 = some false := by kernel_rfl
theorem tS37 : tySize Try.prog 37 = 1 := by kernel_rfl
-- 38: []node.Node
theorem tA38 : tyAgg Try.prog 38 = some false := by kernel_rfl
theorem tS38 : tySize Try.prog 38 = 1 := by kernel_rfl
theorem tZ38 : zeroCells Try.prog 38 = some [.lit []] := by kernel_rfl
theorem tD38 : zeroD Try.prog 38 = some (.sl []) := by kernel_rfl
theorem tM38 : zeroM Try.prog 38 = some (.sl []) := by kernel_rfl
theorem tT38 : tyStr Try.prog 38 = false := by kernel_rfl
theorem tB38 : tyBy Try.prog 38 = false := by kernel_rfl
theorem tE38 : tyElem Try.prog 38 = some (25, 3) := by kernel_rfl
theorem tEs38 : esz Try.prog 38 = some 3 := by kernel_rfl
theorem tEz38 : ezero Try.prog 38 = true := by kernel_rfl
theorem tMk38 : mkZ Try.prog 38 = some (3, 48, .agg [.str [], .int .i64 0, .sl []]) := by kernel_rfl
theorem tAp38 : appK Try.prog 38 38 = some (3, 48) := by kernel_rfl
-- 39: func(node.Node) bool
theorem tA39 : tyAgg Try.prog 39 = some false := by kernel_rfl
theorem tS39 : tySize Try.prog 39 = 1 := by kernel_rfl
-- 40: func(node.Node) []uint8
theorem tA40 : tyAgg Try.prog 40 = some false := by kernel_rfl
theorem tS40 : tySize Try.prog 40 = 1 := by kernel_rfl
-- 41: func(int) bool
theorem tA41 : tyAgg Try.prog 41 = some false := by kernel_rfl
theorem tS41 : tySize Try.prog 41 = 1 := by kernel_rfl
-- 42: func([]node.Node) bool
theorem tA42 : tyAgg Try.prog 42 = some false := by kernel_rfl
theorem tS42 : tySize Try.prog 42 = 1 := by kernel_rfl
-- 43: []apostilleref3.Node
theorem tA43 : tyAgg Try.prog 43 = some false := by kernel_rfl
theorem tS43 : tySize Try.prog 43 = 1 := by kernel_rfl
theorem tZ43 : zeroCells Try.prog 43 = some [.lit []] := by kernel_rfl
theorem tD43 : zeroD Try.prog 43 = some (.sl []) := by kernel_rfl
theorem tM43 : zeroM Try.prog 43 = some (.sl []) := by kernel_rfl
theorem tT43 : tyStr Try.prog 43 = false := by kernel_rfl
theorem tB43 : tyBy Try.prog 43 = false := by kernel_rfl
theorem tE43 : tyElem Try.prog 43 = some (28, 3) := by kernel_rfl
theorem tEs43 : esz Try.prog 43 = some 3 := by kernel_rfl
theorem tEz43 : ezero Try.prog 43 = true := by kernel_rfl
theorem tMk43 : mkZ Try.prog 43 = some (3, 48, .agg [.str [], .int .i64 0, .sl []]) := by kernel_rfl
theorem tAp43 : appK Try.prog 43 43 = some (3, 48) := by kernel_rfl
-- 44: func([]node.Node) []apostilleref3.Node
theorem tA44 : tyAgg Try.prog 44 = some false := by kernel_rfl
theorem tS44 : tySize Try.prog 44 = 1 := by kernel_rfl
-- 45: func([]apostilleref3.Node, int) bool
theorem tA45 : tyAgg Try.prog 45 = some false := by kernel_rfl
theorem tS45 : tySize Try.prog 45 = 1 := by kernel_rfl
-- 46: func([]node.Node, int) bool
theorem tA46 : tyAgg Try.prog 46 = some false := by kernel_rfl
theorem tS46 : tySize Try.prog 46 = 1 := by kernel_rfl
-- 48: func([]node.Node, int, int) ([]int, bool)
theorem tA48 : tyAgg Try.prog 48 = some false := by kernel_rfl
theorem tS48 : tySize Try.prog 48 = 1 := by kernel_rfl
-- 49: func([]apostilleref3.Node, int, int) ([]int, bool)
theorem tA49 : tyAgg Try.prog 49 = some false := by kernel_rfl
theorem tS49 : tySize Try.prog 49 = 1 := by kernel_rfl
-- 50: func([]int, []int) bool
theorem tA50 : tyAgg Try.prog 50 = some false := by kernel_rfl
theorem tS50 : tySize Try.prog 50 = 1 := by kernel_rfl
-- 51: func([]node.Node, int) []int
theorem tA51 : tyAgg Try.prog 51 = some false := by kernel_rfl
theorem tS51 : tySize Try.prog 51 = 1 := by kernel_rfl
-- 52: func([]apostilleref3.Node, int) []int
theorem tA52 : tyAgg Try.prog 52 = some false := by kernel_rfl
theorem tS52 : tySize Try.prog 52 = 1 := by kernel_rfl
-- 53: func([]node.Node, int, int) bool
theorem tA53 : tyAgg Try.prog 53 = some false := by kernel_rfl
theorem tS53 : tySize Try.prog 53 = 1 := by kernel_rfl
-- 54: func([]node.Node, string) bool
theorem tA54 : tyAgg Try.prog 54 = some false := by kernel_rfl
theorem tS54 : tySize Try.prog 54 = 1 := by kernel_rfl
-- 55: [][]uint8
theorem tA55 : tyAgg Try.prog 55 = some false := by kernel_rfl
theorem tS55 : tySize Try.prog 55 = 1 := by kernel_rfl
theorem tZ55 : zeroCells Try.prog 55 = some [.lit []] := by kernel_rfl
theorem tD55 : zeroD Try.prog 55 = some (.sl []) := by kernel_rfl
theorem tM55 : zeroM Try.prog 55 = some (.sl []) := by kernel_rfl
theorem tT55 : tyStr Try.prog 55 = false := by kernel_rfl
theorem tB55 : tyBy Try.prog 55 = false := by kernel_rfl
theorem tE55 : tyElem Try.prog 55 = some (22, 1) := by kernel_rfl
theorem tEs55 : esz Try.prog 55 = some 1 := by kernel_rfl
theorem tEz55 : ezero Try.prog 55 = true := by kernel_rfl
theorem tMk55 : mkZ Try.prog 55 = some (1, 24, .sl []) := by kernel_rfl
theorem tAp55 : appK Try.prog 55 55 = some (1, 24) := by kernel_rfl
-- 56: []bool
theorem tA56 : tyAgg Try.prog 56 = some false := by kernel_rfl
theorem tS56 : tySize Try.prog 56 = 1 := by kernel_rfl
theorem tZ56 : zeroCells Try.prog 56 = some [.lit []] := by kernel_rfl
theorem tD56 : zeroD Try.prog 56 = some (.sl []) := by kernel_rfl
theorem tM56 : zeroM Try.prog 56 = some (.sl []) := by kernel_rfl
theorem tT56 : tyStr Try.prog 56 = false := by kernel_rfl
theorem tB56 : tyBy Try.prog 56 = false := by kernel_rfl
theorem tE56 : tyElem Try.prog 56 = some (4, 1) := by kernel_rfl
theorem tEs56 : esz Try.prog 56 = some 1 := by kernel_rfl
theorem tEz56 : ezero Try.prog 56 = true := by kernel_rfl
theorem tMk56 : mkZ Try.prog 56 = some (1, 1, .bool false) := by kernel_rfl
theorem tAp56 : appK Try.prog 56 56 = some (1, 1) := by kernel_rfl
-- 57: *dev.Disk
theorem tA57 : tyAgg Try.prog 57 = some false := by kernel_rfl
theorem tS57 : tySize Try.prog 57 = 1 := by kernel_rfl
theorem tZ57 : zeroCells Try.prog 57 = some [.d .nilP] := by kernel_rfl
theorem tD57 : zeroD Try.prog 57 = some (.nilP) := by kernel_rfl
theorem tM57 : zeroM Try.prog 57 = some (.nilP) := by kernel_rfl
theorem tT57 : tyStr Try.prog 57 = false := by kernel_rfl
theorem tB57 : tyBy Try.prog 57 = false := by kernel_rfl
theorem tN57 : tyElem Try.prog 57 = none := by kernel_rfl
-- 58: func(int) *dev.Disk
theorem tA58 : tyAgg Try.prog 58 = some false := by kernel_rfl
theorem tS58 : tySize Try.prog 58 = 1 := by kernel_rfl
-- 59: func([]uint8) []uint8
theorem tA59 : tyAgg Try.prog 59 = some false := by kernel_rfl
theorem tS59 : tySize Try.prog 59 = 1 := by kernel_rfl
-- 60: apostille/api.Errno
theorem tA60 : tyAgg Try.prog 60 = some false := by kernel_rfl
theorem tS60 : tySize Try.prog 60 = 1 := by kernel_rfl
theorem tZ60 : zeroCells Try.prog 60 = some [.d (.int .i64 0)] := by kernel_rfl
theorem tD60 : zeroD Try.prog 60 = some (.int .i64 0) := by kernel_rfl
theorem tM60 : zeroM Try.prog 60 = some (.int .i64 0) := by kernel_rfl
theorem tT60 : tyStr Try.prog 60 = false := by kernel_rfl
theorem tI60 : tyInt Try.prog 60 = some .i64 := by kernel_rfl
theorem tK60 : tyKey Try.prog 60 = some (some .i64) := by kernel_rfl
theorem tB60 : tyBy Try.prog 60 = false := by kernel_rfl
theorem tN60 : tyElem Try.prog 60 = none := by kernel_rfl
-- 61: func(int, []uint8) api.Errno
theorem tA61 : tyAgg Try.prog 61 = some false := by kernel_rfl
theorem tS61 : tySize Try.prog 61 = 1 := by kernel_rfl
-- 62: func(int) []uint8
theorem tA62 : tyAgg Try.prog 62 = some false := by kernel_rfl
theorem tS62 : tySize Try.prog 62 = 1 := by kernel_rfl
-- 63: func(api.Crash)
theorem tA63 : tyAgg Try.prog 63 = some false := by kernel_rfl
theorem tS63 : tySize Try.prog 63 = 1 := by kernel_rfl
-- 64: struct { At int; Keep []bool }
theorem tA64 : tyAgg Try.prog 64 = some true := by kernel_rfl
theorem tS64 : tySize Try.prog 64 = 2 := by kernel_rfl
theorem tZ64 : zeroCells Try.prog 64 = some [.d (.int .i64 0), .lit []] := by kernel_rfl
theorem tD64 : zeroD Try.prog 64 = some (.agg [.int .i64 0, .sl []]) := by kernel_rfl
theorem tM64 : zeroM Try.prog 64 = some (.agg [.int .i64 0, .sl []]) := by kernel_rfl
theorem tT64 : tyStr Try.prog 64 = false := by kernel_rfl
theorem tB64 : tyBy Try.prog 64 = false := by kernel_rfl
theorem tN64 : tyElem Try.prog 64 = none := by kernel_rfl
theorem tF64_0 : tyField Try.prog 64 0 = some (0, 3, 1) := by kernel_rfl
theorem tF64_1 : tyField Try.prog 64 1 = some (1, 56, 1) := by kernel_rfl
theorem tFs64 : tyFields Try.prog 64 = some [(0, 1), (1, 1)] := by kernel_rfl
-- 65: apostille/api.Crash
theorem tA65 : tyAgg Try.prog 65 = some true := by kernel_rfl
theorem tS65 : tySize Try.prog 65 = 2 := by kernel_rfl
theorem tZ65 : zeroCells Try.prog 65 = some [.d (.int .i64 0), .lit []] := by kernel_rfl
theorem tD65 : zeroD Try.prog 65 = some (.agg [.int .i64 0, .sl []]) := by kernel_rfl
theorem tM65 : zeroM Try.prog 65 = some (.agg [.int .i64 0, .sl []]) := by kernel_rfl
theorem tT65 : tyStr Try.prog 65 = false := by kernel_rfl
theorem tB65 : tyBy Try.prog 65 = false := by kernel_rfl
theorem tN65 : tyElem Try.prog 65 = none := by kernel_rfl
theorem tF65_0 : tyField Try.prog 65 0 = some (0, 3, 1) := by kernel_rfl
theorem tF65_1 : tyField Try.prog 65 1 = some (1, 56, 1) := by kernel_rfl
theorem tFs65 : tyFields Try.prog 65 = some [(0, 1), (1, 1)] := by kernel_rfl
-- 66: func() api.Errno
theorem tA66 : tyAgg Try.prog 66 = some false := by kernel_rfl
theorem tS66 : tySize Try.prog 66 = 1 := by kernel_rfl
-- 67: func([][]uint8, []bool) bool
theorem tA67 : tyAgg Try.prog 67 = some false := by kernel_rfl
theorem tS67 : tySize Try.prog 67 = 1 := by kernel_rfl
-- 68: func([]uint8, []uint8, int) bool
theorem tA68 : tyAgg Try.prog 68 = some false := by kernel_rfl
theorem tS68 : tySize Try.prog 68 = 1 := by kernel_rfl
-- 69: func() int
theorem tA69 : tyAgg Try.prog 69 = some false := by kernel_rfl
theorem tS69 : tySize Try.prog 69 = 1 := by kernel_rfl
-- 70: func(int, int, int) bool
theorem tA70 : tyAgg Try.prog 70 = some false := by kernel_rfl
theorem tS70 : tySize Try.prog 70 = 1 := by kernel_rfl
-- 71: []apostillelaw1.Act
theorem tA71 : tyAgg Try.prog 71 = some false := by kernel_rfl
theorem tS71 : tySize Try.prog 71 = 1 := by kernel_rfl
theorem tZ71 : zeroCells Try.prog 71 = some [.lit []] := by kernel_rfl
theorem tD71 : zeroD Try.prog 71 = some (.sl []) := by kernel_rfl
theorem tM71 : zeroM Try.prog 71 = some (.sl []) := by kernel_rfl
theorem tT71 : tyStr Try.prog 71 = false := by kernel_rfl
theorem tB71 : tyBy Try.prog 71 = false := by kernel_rfl
theorem tE71 : tyElem Try.prog 71 = some (75, 5) := by kernel_rfl
theorem tEs71 : esz Try.prog 71 = some 5 := by kernel_rfl
theorem tEz71 : ezero Try.prog 71 = true := by kernel_rfl
theorem tMk71 : mkZ Try.prog 71 = some (5, 72, .agg [.int .i64 0, .int .i64 0, .sl [], .int .i64 0, .sl []]) := by kernel_rfl
theorem tAp71 : appK Try.prog 71 71 = some (5, 72) := by kernel_rfl
-- 72: *apostilleref1.Disk
theorem tA72 : tyAgg Try.prog 72 = some false := by kernel_rfl
theorem tS72 : tySize Try.prog 72 = 1 := by kernel_rfl
theorem tZ72 : zeroCells Try.prog 72 = some [.d .nilP] := by kernel_rfl
theorem tD72 : zeroD Try.prog 72 = some (.nilP) := by kernel_rfl
theorem tM72 : zeroM Try.prog 72 = some (.nilP) := by kernel_rfl
theorem tT72 : tyStr Try.prog 72 = false := by kernel_rfl
theorem tB72 : tyBy Try.prog 72 = false := by kernel_rfl
theorem tN72 : tyElem Try.prog 72 = none := by kernel_rfl
-- 73: func(int) *apostilleref1.Disk
theorem tA73 : tyAgg Try.prog 73 = some false := by kernel_rfl
theorem tS73 : tySize Try.prog 73 = 1 := by kernel_rfl
-- 74: struct { Kind int; At int; B []uint8; Crash api.Crash }
theorem tA74 : tyAgg Try.prog 74 = some true := by kernel_rfl
theorem tS74 : tySize Try.prog 74 = 5 := by kernel_rfl
theorem tZ74 : zeroCells Try.prog 74 = some [.d (.int .i64 0), .d (.int .i64 0), .lit [], .d (.int .i64 0), .lit []] := by kernel_rfl
theorem tD74 : zeroD Try.prog 74 = some (.agg [.int .i64 0, .int .i64 0, .sl [], .int .i64 0, .sl []]) := by kernel_rfl
theorem tM74 : zeroM Try.prog 74 = some (.agg [.int .i64 0, .int .i64 0, .sl [], .int .i64 0, .sl []]) := by kernel_rfl
theorem tT74 : tyStr Try.prog 74 = false := by kernel_rfl
theorem tB74 : tyBy Try.prog 74 = false := by kernel_rfl
theorem tN74 : tyElem Try.prog 74 = none := by kernel_rfl
theorem tF74_0 : tyField Try.prog 74 0 = some (0, 3, 1) := by kernel_rfl
theorem tF74_1 : tyField Try.prog 74 1 = some (1, 3, 1) := by kernel_rfl
theorem tF74_2 : tyField Try.prog 74 2 = some (2, 22, 1) := by kernel_rfl
theorem tF74_3 : tyField Try.prog 74 3 = some (3, 65, 2) := by kernel_rfl
theorem tFs74 : tyFields Try.prog 74 = some [(0, 1), (1, 1), (2, 1), (3, 2)] := by kernel_rfl
-- 75: apostille/apostillelaw1.Act
theorem tA75 : tyAgg Try.prog 75 = some true := by kernel_rfl
theorem tS75 : tySize Try.prog 75 = 5 := by kernel_rfl
theorem tZ75 : zeroCells Try.prog 75 = some [.d (.int .i64 0), .d (.int .i64 0), .lit [], .d (.int .i64 0), .lit []] := by kernel_rfl
theorem tD75 : zeroD Try.prog 75 = some (.agg [.int .i64 0, .int .i64 0, .sl [], .int .i64 0, .sl []]) := by kernel_rfl
theorem tM75 : zeroM Try.prog 75 = some (.agg [.int .i64 0, .int .i64 0, .sl [], .int .i64 0, .sl []]) := by kernel_rfl
theorem tT75 : tyStr Try.prog 75 = false := by kernel_rfl
theorem tB75 : tyBy Try.prog 75 = false := by kernel_rfl
theorem tN75 : tyElem Try.prog 75 = none := by kernel_rfl
theorem tF75_0 : tyField Try.prog 75 0 = some (0, 3, 1) := by kernel_rfl
theorem tF75_1 : tyField Try.prog 75 1 = some (1, 3, 1) := by kernel_rfl
theorem tF75_2 : tyField Try.prog 75 2 = some (2, 22, 1) := by kernel_rfl
theorem tF75_3 : tyField Try.prog 75 3 = some (3, 65, 2) := by kernel_rfl
theorem tFs75 : tyFields Try.prog 75 = some [(0, 1), (1, 1), (2, 1), (3, 2)] := by kernel_rfl
-- 76: func(int, []uint8) int
theorem tA76 : tyAgg Try.prog 76 = some false := by kernel_rfl
theorem tS76 : tySize Try.prog 76 = 1 := by kernel_rfl
-- 77: func(*dev.Disk, *apostilleref1.Disk) bool
theorem tA77 : tyAgg Try.prog 77 = some false := by kernel_rfl
theorem tS77 : tySize Try.prog 77 = 1 := by kernel_rfl
-- 78: func(int, []apostillelaw1.Act) bool
theorem tA78 : tyAgg Try.prog 78 = some false := by kernel_rfl
theorem tS78 : tySize Try.prog 78 = 1 := by kernel_rfl
-- 79: func(int, []bool) bool
theorem tA79 : tyAgg Try.prog 79 = some false := by kernel_rfl
theorem tS79 : tySize Try.prog 79 = 1 := by kernel_rfl
-- 80: func([]uint8, uint8) bool
theorem tA80 : tyAgg Try.prog 80 = some false := by kernel_rfl
theorem tS80 : tySize Try.prog 80 = 1 := by kernel_rfl
-- 81: func(*dev.Disk) api.Errno
theorem tA81 : tyAgg Try.prog 81 = some false := by kernel_rfl
theorem tS81 : tySize Try.prog 81 = 1 := by kernel_rfl
-- 82: []api.Write
theorem tA82 : tyAgg Try.prog 82 = some false := by kernel_rfl
theorem tS82 : tySize Try.prog 82 = 1 := by kernel_rfl
theorem tZ82 : zeroCells Try.prog 82 = some [.lit []] := by kernel_rfl
theorem tD82 : zeroD Try.prog 82 = some (.sl []) := by kernel_rfl
theorem tM82 : zeroM Try.prog 82 = some (.sl []) := by kernel_rfl
theorem tT82 : tyStr Try.prog 82 = false := by kernel_rfl
theorem tB82 : tyBy Try.prog 82 = false := by kernel_rfl
theorem tE82 : tyElem Try.prog 82 = some (84, 2) := by kernel_rfl
theorem tEs82 : esz Try.prog 82 = some 2 := by kernel_rfl
theorem tEz82 : ezero Try.prog 82 = true := by kernel_rfl
theorem tMk82 : mkZ Try.prog 82 = some (2, 32, .agg [.int .i64 0, .sl []]) := by kernel_rfl
theorem tAp82 : appK Try.prog 82 82 = some (2, 32) := by kernel_rfl
-- 83: struct { At int; Data []uint8 }
theorem tA83 : tyAgg Try.prog 83 = some true := by kernel_rfl
theorem tS83 : tySize Try.prog 83 = 2 := by kernel_rfl
theorem tZ83 : zeroCells Try.prog 83 = some [.d (.int .i64 0), .lit []] := by kernel_rfl
theorem tD83 : zeroD Try.prog 83 = some (.agg [.int .i64 0, .sl []]) := by kernel_rfl
theorem tM83 : zeroM Try.prog 83 = some (.agg [.int .i64 0, .sl []]) := by kernel_rfl
theorem tT83 : tyStr Try.prog 83 = false := by kernel_rfl
theorem tB83 : tyBy Try.prog 83 = false := by kernel_rfl
theorem tN83 : tyElem Try.prog 83 = none := by kernel_rfl
theorem tF83_0 : tyField Try.prog 83 0 = some (0, 3, 1) := by kernel_rfl
theorem tF83_1 : tyField Try.prog 83 1 = some (1, 22, 1) := by kernel_rfl
theorem tFs83 : tyFields Try.prog 83 = some [(0, 1), (1, 1)] := by kernel_rfl
-- 84: apostille/api.Write
theorem tA84 : tyAgg Try.prog 84 = some true := by kernel_rfl
theorem tS84 : tySize Try.prog 84 = 2 := by kernel_rfl
theorem tZ84 : zeroCells Try.prog 84 = some [.d (.int .i64 0), .lit []] := by kernel_rfl
theorem tD84 : zeroD Try.prog 84 = some (.agg [.int .i64 0, .sl []]) := by kernel_rfl
theorem tM84 : zeroM Try.prog 84 = some (.agg [.int .i64 0, .sl []]) := by kernel_rfl
theorem tT84 : tyStr Try.prog 84 = false := by kernel_rfl
theorem tB84 : tyBy Try.prog 84 = false := by kernel_rfl
theorem tN84 : tyElem Try.prog 84 = none := by kernel_rfl
theorem tF84_0 : tyField Try.prog 84 0 = some (0, 3, 1) := by kernel_rfl
theorem tF84_1 : tyField Try.prog 84 1 = some (1, 22, 1) := by kernel_rfl
theorem tFs84 : tyFields Try.prog 84 = some [(0, 1), (1, 1)] := by kernel_rfl
-- 85: func(*dev.Disk, ...api.Write) api.Errno
theorem tA85 : tyAgg Try.prog 85 = some false := by kernel_rfl
theorem tS85 : tySize Try.prog 85 = 1 := by kernel_rfl
-- 86: func(*dev.Disk, int) []uint8
theorem tA86 : tyAgg Try.prog 86 = some false := by kernel_rfl
theorem tS86 : tySize Try.prog 86 = 1 := by kernel_rfl
-- 87: func(int, int) bool
theorem tA87 : tyAgg Try.prog 87 = some false := by kernel_rfl
theorem tS87 : tySize Try.prog 87 = 1 := by kernel_rfl
-- 88: func(*apostilleref1.Disk) int
theorem tA88 : tyAgg Try.prog 88 = some false := by kernel_rfl
theorem tS88 : tySize Try.prog 88 = 1 := by kernel_rfl
-- 89: func([]uint8, [][]uint8, int) bool
theorem tA89 : tyAgg Try.prog 89 = some false := by kernel_rfl
theorem tS89 : tySize Try.prog 89 = 1 := by kernel_rfl
-- 90: func([]api.Write) []api.Write
theorem tA90 : tyAgg Try.prog 90 = some false := by kernel_rfl
theorem tS90 : tySize Try.prog 90 = 1 := by kernel_rfl
-- 91: func(*apostilleref1.Disk, []api.Write) int
theorem tA91 : tyAgg Try.prog 91 = some false := by kernel_rfl
theorem tS91 : tySize Try.prog 91 = 1 := by kernel_rfl
-- 92: func(*dev.Disk) int
theorem tA92 : tyAgg Try.prog 92 = some false := by kernel_rfl
theorem tS92 : tySize Try.prog 92 = 1 := by kernel_rfl
-- 93: func(*apostilleref1.Disk, int) []uint8
theorem tA93 : tyAgg Try.prog 93 = some false := by kernel_rfl
theorem tS93 : tySize Try.prog 93 = 1 := by kernel_rfl
-- 94: func([]api.Write, api.Crash, api.Crash) bool
theorem tA94 : tyAgg Try.prog 94 = some false := by kernel_rfl
theorem tS94 : tySize Try.prog 94 = 1 := by kernel_rfl
-- 95: []apostillelaw2.Act
theorem tA95 : tyAgg Try.prog 95 = some false := by kernel_rfl
theorem tS95 : tySize Try.prog 95 = 1 := by kernel_rfl
theorem tZ95 : zeroCells Try.prog 95 = some [.lit []] := by kernel_rfl
theorem tD95 : zeroD Try.prog 95 = some (.sl []) := by kernel_rfl
theorem tM95 : zeroM Try.prog 95 = some (.sl []) := by kernel_rfl
theorem tT95 : tyStr Try.prog 95 = false := by kernel_rfl
theorem tB95 : tyBy Try.prog 95 = false := by kernel_rfl
theorem tE95 : tyElem Try.prog 95 = some (97, 4) := by kernel_rfl
theorem tEs95 : esz Try.prog 95 = some 4 := by kernel_rfl
theorem tEz95 : ezero Try.prog 95 = true := by kernel_rfl
theorem tMk95 : mkZ Try.prog 95 = some (4, 64, .agg [.int .i64 0, .sl [], .int .i64 0, .sl []]) := by kernel_rfl
theorem tAp95 : appK Try.prog 95 95 = some (4, 64) := by kernel_rfl
-- 96: struct { Kind int; W []api.Write; Crash api.Crash }
theorem tA96 : tyAgg Try.prog 96 = some true := by kernel_rfl
theorem tS96 : tySize Try.prog 96 = 4 := by kernel_rfl
theorem tZ96 : zeroCells Try.prog 96 = some [.d (.int .i64 0), .lit [], .d (.int .i64 0), .lit []] := by kernel_rfl
theorem tD96 : zeroD Try.prog 96 = some (.agg [.int .i64 0, .sl [], .int .i64 0, .sl []]) := by kernel_rfl
theorem tM96 : zeroM Try.prog 96 = some (.agg [.int .i64 0, .sl [], .int .i64 0, .sl []]) := by kernel_rfl
theorem tT96 : tyStr Try.prog 96 = false := by kernel_rfl
theorem tB96 : tyBy Try.prog 96 = false := by kernel_rfl
theorem tN96 : tyElem Try.prog 96 = none := by kernel_rfl
theorem tF96_0 : tyField Try.prog 96 0 = some (0, 3, 1) := by kernel_rfl
theorem tF96_1 : tyField Try.prog 96 1 = some (1, 82, 1) := by kernel_rfl
theorem tF96_2 : tyField Try.prog 96 2 = some (2, 65, 2) := by kernel_rfl
theorem tFs96 : tyFields Try.prog 96 = some [(0, 1), (1, 1), (2, 2)] := by kernel_rfl
-- 97: apostille/apostillelaw2.Act
theorem tA97 : tyAgg Try.prog 97 = some true := by kernel_rfl
theorem tS97 : tySize Try.prog 97 = 4 := by kernel_rfl
theorem tZ97 : zeroCells Try.prog 97 = some [.d (.int .i64 0), .lit [], .d (.int .i64 0), .lit []] := by kernel_rfl
theorem tD97 : zeroD Try.prog 97 = some (.agg [.int .i64 0, .sl [], .int .i64 0, .sl []]) := by kernel_rfl
theorem tM97 : zeroM Try.prog 97 = some (.agg [.int .i64 0, .sl [], .int .i64 0, .sl []]) := by kernel_rfl
theorem tT97 : tyStr Try.prog 97 = false := by kernel_rfl
theorem tB97 : tyBy Try.prog 97 = false := by kernel_rfl
theorem tN97 : tyElem Try.prog 97 = none := by kernel_rfl
theorem tF97_0 : tyField Try.prog 97 0 = some (0, 3, 1) := by kernel_rfl
theorem tF97_1 : tyField Try.prog 97 1 = some (1, 82, 1) := by kernel_rfl
theorem tF97_2 : tyField Try.prog 97 2 = some (2, 65, 2) := by kernel_rfl
theorem tFs97 : tyFields Try.prog 97 = some [(0, 1), (1, 1), (2, 2)] := by kernel_rfl
-- 98: func(int, []apostillelaw2.Act) bool
theorem tA98 : tyAgg Try.prog 98 = some false := by kernel_rfl
theorem tS98 : tySize Try.prog 98 = 1 := by kernel_rfl
-- 99: func([]uint8, []uint8) bool
theorem tA99 : tyAgg Try.prog 99 = some false := by kernel_rfl
theorem tS99 : tySize Try.prog 99 = 1 := by kernel_rfl
-- 100: func([]uint8) int
theorem tA100 : tyAgg Try.prog 100 = some false := by kernel_rfl
theorem tS100 : tySize Try.prog 100 = 1 := by kernel_rfl
-- 101: func(int) int
theorem tA101 : tyAgg Try.prog 101 = some false := by kernel_rfl
theorem tS101 : tySize Try.prog 101 = 1 := by kernel_rfl
-- 102: func(string) bool
theorem tA102 : tyAgg Try.prog 102 = some false := by kernel_rfl
theorem tS102 : tySize Try.prog 102 = 1 := by kernel_rfl
-- 103: map[int]bool
theorem tA103 : tyAgg Try.prog 103 = some false := by kernel_rfl
theorem tS103 : tySize Try.prog 103 = 1 := by kernel_rfl
theorem tZ103 : zeroCells Try.prog 103 = some [.d .nilM] := by kernel_rfl
theorem tD103 : zeroD Try.prog 103 = some (.nilM) := by kernel_rfl
theorem tM103 : zeroM Try.prog 103 = some (.nilM) := by kernel_rfl
theorem tT103 : tyStr Try.prog 103 = false := by kernel_rfl
theorem tMp103 : tyMap Try.prog 103 = some (3, 4) := by kernel_rfl
theorem tB103 : tyBy Try.prog 103 = false := by kernel_rfl
theorem tN103 : tyElem Try.prog 103 = none := by kernel_rfl
-- 105: func([]node.Node, int) (map[int]bool, bool)
theorem tA105 : tyAgg Try.prog 105 = some false := by kernel_rfl
theorem tS105 : tySize Try.prog 105 = 1 := by kernel_rfl
-- 106: struct { lasts [][]uint8; waits []api.Write; crash api.Crash; armed bool; down bool; ops int }
theorem tA106 : tyAgg Try.prog 106 = some true := by kernel_rfl
theorem tS106 : tySize Try.prog 106 = 7 := by kernel_rfl
theorem tZ106 : zeroCells Try.prog 106 = some [.lit [], .lit [], .d (.int .i64 0), .lit [], .d (.bool false), .d (.bool false), .d (.int .i64 0)] := by kernel_rfl
theorem tD106 : zeroD Try.prog 106 = some (.agg [.sl [], .sl [], .int .i64 0, .sl [], .bool false, .bool false, .int .i64 0]) := by kernel_rfl
theorem tM106 : zeroM Try.prog 106 = some (.agg [.sl [], .sl [], .int .i64 0, .sl [], .bool false, .bool false, .int .i64 0]) := by kernel_rfl
theorem tT106 : tyStr Try.prog 106 = false := by kernel_rfl
theorem tB106 : tyBy Try.prog 106 = false := by kernel_rfl
theorem tN106 : tyElem Try.prog 106 = none := by kernel_rfl
theorem tF106_0 : tyField Try.prog 106 0 = some (0, 55, 1) := by kernel_rfl
theorem tF106_1 : tyField Try.prog 106 1 = some (1, 82, 1) := by kernel_rfl
theorem tF106_2 : tyField Try.prog 106 2 = some (2, 65, 2) := by kernel_rfl
theorem tF106_3 : tyField Try.prog 106 3 = some (4, 4, 1) := by kernel_rfl
theorem tF106_4 : tyField Try.prog 106 4 = some (5, 4, 1) := by kernel_rfl
theorem tF106_5 : tyField Try.prog 106 5 = some (6, 3, 1) := by kernel_rfl
theorem tFs106 : tyFields Try.prog 106 = some [(0, 1), (1, 1), (2, 2), (4, 1), (5, 1), (6, 1)] := by kernel_rfl
-- 107: apostille/dev.Disk
theorem tA107 : tyAgg Try.prog 107 = some true := by kernel_rfl
theorem tS107 : tySize Try.prog 107 = 7 := by kernel_rfl
theorem tZ107 : zeroCells Try.prog 107 = some [.lit [], .lit [], .d (.int .i64 0), .lit [], .d (.bool false), .d (.bool false), .d (.int .i64 0)] := by kernel_rfl
theorem tD107 : zeroD Try.prog 107 = some (.agg [.sl [], .sl [], .int .i64 0, .sl [], .bool false, .bool false, .int .i64 0]) := by kernel_rfl
theorem tM107 : zeroM Try.prog 107 = some (.agg [.sl [], .sl [], .int .i64 0, .sl [], .bool false, .bool false, .int .i64 0]) := by kernel_rfl
theorem tT107 : tyStr Try.prog 107 = false := by kernel_rfl
theorem tB107 : tyBy Try.prog 107 = false := by kernel_rfl
theorem tN107 : tyElem Try.prog 107 = none := by kernel_rfl
theorem tF107_0 : tyField Try.prog 107 0 = some (0, 55, 1) := by kernel_rfl
theorem tF107_1 : tyField Try.prog 107 1 = some (1, 82, 1) := by kernel_rfl
theorem tF107_2 : tyField Try.prog 107 2 = some (2, 65, 2) := by kernel_rfl
theorem tF107_3 : tyField Try.prog 107 3 = some (4, 4, 1) := by kernel_rfl
theorem tF107_4 : tyField Try.prog 107 4 = some (5, 4, 1) := by kernel_rfl
theorem tF107_5 : tyField Try.prog 107 5 = some (6, 3, 1) := by kernel_rfl
theorem tFs107 : tyFields Try.prog 107 = some [(0, 1), (1, 1), (2, 2), (4, 1), (5, 1), (6, 1)] := by kernel_rfl
-- 108: func(func(int) bool)
theorem tA108 : tyAgg Try.prog 108 = some false := by kernel_rfl
theorem tS108 : tySize Try.prog 108 = 1 := by kernel_rfl
-- 109: struct { S [][]uint8; W []api.Write; N int; c api.Crash; armed bool; Down bool }
theorem tA109 : tyAgg Try.prog 109 = some true := by kernel_rfl
theorem tS109 : tySize Try.prog 109 = 7 := by kernel_rfl
theorem tZ109 : zeroCells Try.prog 109 = some [.lit [], .lit [], .d (.int .i64 0), .d (.int .i64 0), .lit [], .d (.bool false), .d (.bool false)] := by kernel_rfl
theorem tD109 : zeroD Try.prog 109 = some (.agg [.sl [], .sl [], .int .i64 0, .int .i64 0, .sl [], .bool false, .bool false]) := by kernel_rfl
theorem tM109 : zeroM Try.prog 109 = some (.agg [.sl [], .sl [], .int .i64 0, .int .i64 0, .sl [], .bool false, .bool false]) := by kernel_rfl
theorem tT109 : tyStr Try.prog 109 = false := by kernel_rfl
theorem tB109 : tyBy Try.prog 109 = false := by kernel_rfl
theorem tN109 : tyElem Try.prog 109 = none := by kernel_rfl
theorem tF109_0 : tyField Try.prog 109 0 = some (0, 55, 1) := by kernel_rfl
theorem tF109_1 : tyField Try.prog 109 1 = some (1, 82, 1) := by kernel_rfl
theorem tF109_2 : tyField Try.prog 109 2 = some (2, 3, 1) := by kernel_rfl
theorem tF109_3 : tyField Try.prog 109 3 = some (3, 65, 2) := by kernel_rfl
theorem tF109_4 : tyField Try.prog 109 4 = some (5, 4, 1) := by kernel_rfl
theorem tF109_5 : tyField Try.prog 109 5 = some (6, 4, 1) := by kernel_rfl
theorem tFs109 : tyFields Try.prog 109 = some [(0, 1), (1, 1), (2, 1), (3, 2), (5, 1), (6, 1)] := by kernel_rfl
-- 110: apostille/apostilleref1.Disk
theorem tA110 : tyAgg Try.prog 110 = some true := by kernel_rfl
theorem tS110 : tySize Try.prog 110 = 7 := by kernel_rfl
theorem tZ110 : zeroCells Try.prog 110 = some [.lit [], .lit [], .d (.int .i64 0), .d (.int .i64 0), .lit [], .d (.bool false), .d (.bool false)] := by kernel_rfl
theorem tD110 : zeroD Try.prog 110 = some (.agg [.sl [], .sl [], .int .i64 0, .int .i64 0, .sl [], .bool false, .bool false]) := by kernel_rfl
theorem tM110 : zeroM Try.prog 110 = some (.agg [.sl [], .sl [], .int .i64 0, .int .i64 0, .sl [], .bool false, .bool false]) := by kernel_rfl
theorem tT110 : tyStr Try.prog 110 = false := by kernel_rfl
theorem tB110 : tyBy Try.prog 110 = false := by kernel_rfl
theorem tN110 : tyElem Try.prog 110 = none := by kernel_rfl
theorem tF110_0 : tyField Try.prog 110 0 = some (0, 55, 1) := by kernel_rfl
theorem tF110_1 : tyField Try.prog 110 1 = some (1, 82, 1) := by kernel_rfl
theorem tF110_2 : tyField Try.prog 110 2 = some (2, 3, 1) := by kernel_rfl
theorem tF110_3 : tyField Try.prog 110 3 = some (3, 65, 2) := by kernel_rfl
theorem tF110_4 : tyField Try.prog 110 4 = some (5, 4, 1) := by kernel_rfl
theorem tF110_5 : tyField Try.prog 110 5 = some (6, 4, 1) := by kernel_rfl
theorem tFs110 : tyFields Try.prog 110 = some [(0, 1), (1, 1), (2, 1), (3, 2), (5, 1), (6, 1)] := by kernel_rfl
-- 111: func(api.Write)
theorem tA111 : tyAgg Try.prog 111 = some false := by kernel_rfl
theorem tS111 : tySize Try.prog 111 = 1 := by kernel_rfl
-- 112: func(...uint8) []uint8
theorem tA112 : tyAgg Try.prog 112 = some false := by kernel_rfl
theorem tS112 : tySize Try.prog 112 = 1 := by kernel_rfl
-- 113: iter.Seq[int]
theorem tA113 : tyAgg Try.prog 113 = some false := by kernel_rfl
theorem tS113 : tySize Try.prog 113 = 1 := by kernel_rfl
-- 114: func(*dev.Disk) iter.Seq[int]
theorem tA114 : tyAgg Try.prog 114 = some false := by kernel_rfl
theorem tS114 : tySize Try.prog 114 = 1 := by kernel_rfl
-- 115: func(*dev.Disk, []api.Write) api.Errno
theorem tA115 : tyAgg Try.prog 115 = some false := by kernel_rfl
theorem tS115 : tySize Try.prog 115 = 1 := by kernel_rfl
-- 117: func([]uint8) (int, bool)
theorem tA117 : tyAgg Try.prog 117 = some false := by kernel_rfl
theorem tS117 : tySize Try.prog 117 = 1 := by kernel_rfl
-- 119: func(*dev.Disk, int) ([]api.Write, bool)
theorem tA119 : tyAgg Try.prog 119 = some false := by kernel_rfl
theorem tS119 : tySize Try.prog 119 = 1 := by kernel_rfl
-- 120: func(*apostilleref1.Disk, int) ([]api.Write, bool)
theorem tA120 : tyAgg Try.prog 120 = some false := by kernel_rfl
theorem tS120 : tySize Try.prog 120 = 1 := by kernel_rfl
-- 121: func(*apostilleref1.Disk, []api.Write) bool
theorem tA121 : tyAgg Try.prog 121 = some false := by kernel_rfl
theorem tS121 : tySize Try.prog 121 = 1 := by kernel_rfl
-- 122: uint
theorem tA122 : tyAgg Try.prog 122 = some false := by kernel_rfl
theorem tS122 : tySize Try.prog 122 = 1 := by kernel_rfl
theorem tZ122 : zeroCells Try.prog 122 = some [.d (.int .u64 0)] := by kernel_rfl
theorem tD122 : zeroD Try.prog 122 = some (.int .u64 0) := by kernel_rfl
theorem tM122 : zeroM Try.prog 122 = some (.int .u64 0) := by kernel_rfl
theorem tT122 : tyStr Try.prog 122 = false := by kernel_rfl
theorem tI122 : tyInt Try.prog 122 = some .u64 := by kernel_rfl
theorem tK122 : tyKey Try.prog 122 = some (some .u64) := by kernel_rfl
theorem tB122 : tyBy Try.prog 122 = false := by kernel_rfl
theorem tN122 : tyElem Try.prog 122 = none := by kernel_rfl
-- 123: map[string]bool
theorem tA123 : tyAgg Try.prog 123 = some false := by kernel_rfl
theorem tS123 : tySize Try.prog 123 = 1 := by kernel_rfl
theorem tZ123 : zeroCells Try.prog 123 = some [.d .nilM] := by kernel_rfl
theorem tD123 : zeroD Try.prog 123 = some (.nilM) := by kernel_rfl
theorem tM123 : zeroM Try.prog 123 = some (.nilM) := by kernel_rfl
theorem tT123 : tyStr Try.prog 123 = false := by kernel_rfl
theorem tMp123 : tyMap Try.prog 123 = some (9, 4) := by kernel_rfl
theorem tB123 : tyBy Try.prog 123 = false := by kernel_rfl
theorem tN123 : tyElem Try.prog 123 = none := by kernel_rfl
-- 124: func() string
theorem tA124 : tyAgg Try.prog 124 = some false := by kernel_rfl
theorem tS124 : tySize Try.prog 124 = 1 := by kernel_rfl
-- 127: [0]*runtime.PanicNilError
theorem tA127 : tyAgg Try.prog 127 = some true := by kernel_rfl
theorem tS127 : tySize Try.prog 127 = 0 := by kernel_rfl
theorem tZ127 : zeroCells Try.prog 127 = some [] := by kernel_rfl
theorem tD127 : zeroD Try.prog 127 = some (.agg []) := by kernel_rfl
theorem tM127 : zeroM Try.prog 127 = some (.agg []) := by kernel_rfl
theorem tT127 : tyStr Try.prog 127 = false := by kernel_rfl
theorem tAr127 : tyArr Try.prog 127 = some (0, 16, 1) := by kernel_rfl
theorem tB127 : tyBy Try.prog 127 = false := by kernel_rfl
theorem tN127 : tyElem Try.prog 127 = none := by kernel_rfl
-- 130: uint32
theorem tA130 : tyAgg Try.prog 130 = some false := by kernel_rfl
theorem tS130 : tySize Try.prog 130 = 1 := by kernel_rfl
theorem tZ130 : zeroCells Try.prog 130 = some [.d (.int .u32 0)] := by kernel_rfl
theorem tD130 : zeroD Try.prog 130 = some (.int .u32 0) := by kernel_rfl
theorem tM130 : zeroM Try.prog 130 = some (.int .u32 0) := by kernel_rfl
theorem tT130 : tyStr Try.prog 130 = false := by kernel_rfl
theorem tI130 : tyInt Try.prog 130 = some .u32 := by kernel_rfl
theorem tK130 : tyKey Try.prog 130 = some (some .u32) := by kernel_rfl
theorem tB130 : tyBy Try.prog 130 = false := by kernel_rfl
theorem tN130 : tyElem Try.prog 130 = none := by kernel_rfl
-- 133: func(unsafe.Pointer, unsafe.Pointer) bool
theorem tA133 : tyAgg Try.prog 133 = some false := by kernel_rfl
theorem tS133 : tySize Try.prog 133 = 1 := by kernel_rfl
-- 134: *uint8
theorem tA134 : tyAgg Try.prog 134 = some false := by kernel_rfl
theorem tS134 : tySize Try.prog 134 = 1 := by kernel_rfl
theorem tZ134 : zeroCells Try.prog 134 = some [.d .nilP] := by kernel_rfl
theorem tD134 : zeroD Try.prog 134 = some (.nilP) := by kernel_rfl
theorem tM134 : zeroM Try.prog 134 = some (.nilP) := by kernel_rfl
theorem tT134 : tyStr Try.prog 134 = false := by kernel_rfl
theorem tB134 : tyBy Try.prog 134 = false := by kernel_rfl
theorem tN134 : tyElem Try.prog 134 = none := by kernel_rfl
-- 137: struct { Size_ uintptr; PtrBytes uintptr; Hash uint32; TFlag abi.TFlag; Align_ uint8; FieldAlign_ uint8; Kind_ abi.Kind; Equal func(unsafe.Pointer, unsafe.Pointer) bool; GCData *uint8; Str abi.NameOff; PtrToThis abi.TypeOff }
theorem tA137 : tyAgg Try.prog 137 = some true := by kernel_rfl
theorem tS137 : tySize Try.prog 137 = 11 := by kernel_rfl
theorem tZ137 : zeroCells Try.prog 137 = some [.d (.int .u64 0), .d (.int .u64 0), .d (.int .u32 0), .d (.int .u8 0), .d (.int .u8 0), .d (.int .u8 0), .d (.int .u8 0), .d .nilF, .d .nilP, .d (.int .i32 0), .d (.int .i32 0)] := by kernel_rfl
theorem tD137 : zeroD Try.prog 137 = some (.agg [.int .u64 0, .int .u64 0, .int .u32 0, .int .u8 0, .int .u8 0, .int .u8 0, .int .u8 0, .nilF, .nilP, .int .i32 0, .int .i32 0]) := by kernel_rfl
theorem tM137 : zeroM Try.prog 137 = some (.agg [.int .u64 0, .int .u64 0, .int .u32 0, .int .u8 0, .int .u8 0, .int .u8 0, .int .u8 0, .nilF, .nilP, .int .i32 0, .int .i32 0]) := by kernel_rfl
theorem tT137 : tyStr Try.prog 137 = false := by kernel_rfl
theorem tB137 : tyBy Try.prog 137 = false := by kernel_rfl
theorem tN137 : tyElem Try.prog 137 = none := by kernel_rfl
theorem tF137_0 : tyField Try.prog 137 0 = some (0, 12, 1) := by kernel_rfl
theorem tF137_1 : tyField Try.prog 137 1 = some (1, 12, 1) := by kernel_rfl
theorem tF137_2 : tyField Try.prog 137 2 = some (2, 130, 1) := by kernel_rfl
theorem tF137_3 : tyField Try.prog 137 3 = some (3, 131, 1) := by kernel_rfl
theorem tF137_4 : tyField Try.prog 137 4 = some (4, 5, 1) := by kernel_rfl
theorem tF137_5 : tyField Try.prog 137 5 = some (5, 5, 1) := by kernel_rfl
theorem tF137_6 : tyField Try.prog 137 6 = some (6, 132, 1) := by kernel_rfl
theorem tF137_7 : tyField Try.prog 137 7 = some (7, 133, 1) := by kernel_rfl
theorem tF137_8 : tyField Try.prog 137 8 = some (8, 134, 1) := by kernel_rfl
theorem tF137_9 : tyField Try.prog 137 9 = some (9, 135, 1) := by kernel_rfl
theorem tF137_10 : tyField Try.prog 137 10 = some (10, 136, 1) := by kernel_rfl
theorem tFs137 : tyFields Try.prog 137 = some [(0, 1), (1, 1), (2, 1), (3, 1), (4, 1), (5, 1), (6, 1), (7, 1), (8, 1), (9, 1), (10, 1)] := by kernel_rfl
attribute [simp] tA1 tS1 tA2 tS2 tZ2 tD2 tM2 tT2 tI2 tK2 tB2 tN2 tA3 tS3 tZ3 tD3 tM3 tT3 tI3 tK3 tB3 tN3 tA4 tS4 tZ4 tD4 tM4 tT4 tB4 tN4 tA5 tS5 tZ5 tD5 tM5 tT5 tI5 tK5 tB5 tN5
attribute [simp] tA9 tS9 tZ9 tD9 tM9 tT9 tK9 tB9 tN9 tA12 tS12 tZ12 tD12 tM12 tT12 tI12 tK12 tB12 tN12 tA21 tS21 tZ21 tD21 tM21 tT21 tI21 tK21 tB21 tN21 tA22 tS22 tZ22 tD22 tM22 tT22 tB22 tE22 tEs22 tEz22 tMk22
attribute [simp] tAp22 tMb22 tAp22_9 tA23 tS23 tZ23 tD23 tM23 tT23 tB23 tE23 tEs23 tEz23 tMk23 tAp23 tA24 tS24 tZ24 tD24 tM24 tT24 tB24 tN24 tF24_0 tF24_1 tF24_2 tFs24 tA25 tS25 tZ25 tD25 tM25 tT25 tB25 tN25 tF25_0 tF25_1 tF25_2 tFs25 tA27
attribute [simp] tS27 tA28 tS28 tZ28 tD28 tM28 tT28 tB28 tN28 tF28_0 tF28_1 tF28_2 tFs28 tA30 tS30 tA31 tS31 tA32 tS32 tA33 tS33 tA34 tS34 tA35 tS35 tA36 tS36 tA37 tS37 tA38 tS38 tZ38 tD38 tM38 tT38 tB38 tE38 tEs38 tEz38 tMk38
attribute [simp] tAp38 tA39 tS39 tA40 tS40 tA41 tS41 tA42 tS42 tA43 tS43 tZ43 tD43 tM43 tT43 tB43 tE43 tEs43 tEz43 tMk43 tAp43 tA44 tS44 tA45 tS45 tA46 tS46 tA48 tS48 tA49 tS49 tA50 tS50 tA51 tS51 tA52 tS52 tA53 tS53 tA54
attribute [simp] tS54 tA55 tS55 tZ55 tD55 tM55 tT55 tB55 tE55 tEs55 tEz55 tMk55 tAp55 tA56 tS56 tZ56 tD56 tM56 tT56 tB56 tE56 tEs56 tEz56 tMk56 tAp56 tA57 tS57 tZ57 tD57 tM57 tT57 tB57 tN57 tA58 tS58 tA59 tS59 tA60 tS60 tZ60
attribute [simp] tD60 tM60 tT60 tI60 tK60 tB60 tN60 tA61 tS61 tA62 tS62 tA63 tS63 tA64 tS64 tZ64 tD64 tM64 tT64 tB64 tN64 tF64_0 tF64_1 tFs64 tA65 tS65 tZ65 tD65 tM65 tT65 tB65 tN65 tF65_0 tF65_1 tFs65 tA66 tS66 tA67 tS67 tA68
attribute [simp] tS68 tA69 tS69 tA70 tS70 tA71 tS71 tZ71 tD71 tM71 tT71 tB71 tE71 tEs71 tEz71 tMk71 tAp71 tA72 tS72 tZ72 tD72 tM72 tT72 tB72 tN72 tA73 tS73 tA74 tS74 tZ74 tD74 tM74 tT74 tB74 tN74 tF74_0 tF74_1 tF74_2 tF74_3 tFs74
attribute [simp] tA75 tS75 tZ75 tD75 tM75 tT75 tB75 tN75 tF75_0 tF75_1 tF75_2 tF75_3 tFs75 tA76 tS76 tA77 tS77 tA78 tS78 tA79 tS79 tA80 tS80 tA81 tS81 tA82 tS82 tZ82 tD82 tM82 tT82 tB82 tE82 tEs82 tEz82 tMk82 tAp82 tA83 tS83 tZ83
attribute [simp] tD83 tM83 tT83 tB83 tN83 tF83_0 tF83_1 tFs83 tA84 tS84 tZ84 tD84 tM84 tT84 tB84 tN84 tF84_0 tF84_1 tFs84 tA85 tS85 tA86 tS86 tA87 tS87 tA88 tS88 tA89 tS89 tA90 tS90 tA91 tS91 tA92 tS92 tA93 tS93 tA94 tS94 tA95
attribute [simp] tS95 tZ95 tD95 tM95 tT95 tB95 tE95 tEs95 tEz95 tMk95 tAp95 tA96 tS96 tZ96 tD96 tM96 tT96 tB96 tN96 tF96_0 tF96_1 tF96_2 tFs96 tA97 tS97 tZ97 tD97 tM97 tT97 tB97 tN97 tF97_0 tF97_1 tF97_2 tFs97 tA98 tS98 tA99 tS99 tA100
attribute [simp] tS100 tA101 tS101 tA102 tS102 tA103 tS103 tZ103 tD103 tM103 tT103 tMp103 tB103 tN103 tA105 tS105 tA106 tS106 tZ106 tD106 tM106 tT106 tB106 tN106 tF106_0 tF106_1 tF106_2 tF106_3 tF106_4 tF106_5 tFs106 tA107 tS107 tZ107 tD107 tM107 tT107 tB107 tN107 tF107_0
attribute [simp] tF107_1 tF107_2 tF107_3 tF107_4 tF107_5 tFs107 tA108 tS108 tA109 tS109 tZ109 tD109 tM109 tT109 tB109 tN109 tF109_0 tF109_1 tF109_2 tF109_3 tF109_4 tF109_5 tFs109 tA110 tS110 tZ110 tD110 tM110 tT110 tB110 tN110 tF110_0 tF110_1 tF110_2 tF110_3 tF110_4 tF110_5 tFs110 tA111 tS111
attribute [simp] tA112 tS112 tA113 tS113 tA114 tS114 tA115 tS115 tA117 tS117 tA119 tS119 tA120 tS120 tA121 tS121 tA122 tS122 tZ122 tD122 tM122 tT122 tI122 tK122 tB122 tN122 tA123 tS123 tZ123 tD123 tM123 tT123 tMp123 tB123 tN123 tA124 tS124 tA127 tS127 tZ127
attribute [simp] tD127 tM127 tT127 tAr127 tB127 tN127 tA130 tS130 tZ130 tD130 tM130 tT130 tI130 tK130 tB130 tN130 tA133 tS133 tA134 tS134 tZ134 tD134 tM134 tT134 tB134 tN134 tA137 tS137 tZ137 tD137 tM137 tT137 tB137 tN137 tF137_0 tF137_1 tF137_2 tF137_3 tF137_4 tF137_5
attribute [simp] tF137_6 tF137_7 tF137_8 tF137_9 tF137_10 tFs137
end Go.VM
