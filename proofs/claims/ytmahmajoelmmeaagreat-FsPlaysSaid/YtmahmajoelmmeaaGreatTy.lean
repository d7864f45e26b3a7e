/- Facts on the types of the program, by evaluation. No condition. Printed by a program of ours. -/
import Derived.Test.YtmahmajoelmmeaaGreatVmC
import Derived.Test.YtmahmajoelmmeaaGreatChecked
import Derived.KernelRfl
namespace Go.VM
open Go.Proofs
theorem tA3 : tyAgg Tryz.prog 3 = some false := by kernel_rfl
theorem tS3 : tySize Tryz.prog 3 = 1 := by kernel_rfl
theorem tM3 : zeroM Tryz.prog 3 = some (.int .i64 0) := by kernel_rfl
theorem tK3 : tyKey Tryz.prog 3 = some (some .i64) := by kernel_rfl
theorem tA4 : tyAgg Tryz.prog 4 = some false := by kernel_rfl
theorem tS4 : tySize Tryz.prog 4 = 1 := by kernel_rfl
theorem tZ4 : zeroCells Tryz.prog 4 = some [.d (.bool false)] := by kernel_rfl
theorem tM4 : zeroM Tryz.prog 4 = some (.bool false) := by kernel_rfl
theorem tA5 : tyAgg Tryz.prog 5 = some false := by kernel_rfl
theorem tS5 : tySize Tryz.prog 5 = 1 := by kernel_rfl
theorem tA9 : tyAgg Tryz.prog 9 = some false := by kernel_rfl
theorem tS9 : tySize Tryz.prog 9 = 1 := by kernel_rfl
theorem tT9 : tyStr Tryz.prog 9 = true := by kernel_rfl
theorem tK9 : tyKey Tryz.prog 9 = some none := by kernel_rfl
theorem tA22 : tyAgg Tryz.prog 22 = some false := by kernel_rfl
theorem tEs22 : esz Tryz.prog 22 = some 3 := by kernel_rfl
theorem tEz22 : ezero Tryz.prog 22 = true := by kernel_rfl
theorem tA24 : tyAgg Tryz.prog 24 = some false := by kernel_rfl
theorem tA25 : tyAgg Tryz.prog 25 = some false := by kernel_rfl
theorem tA28 : tyAgg Tryz.prog 28 = some false := by kernel_rfl
theorem tA33 : tyAgg Tryz.prog 33 = some false := by kernel_rfl
theorem tS33 : tySize Tryz.prog 33 = 1 := by kernel_rfl
theorem tZ33 : zeroCells Tryz.prog 33 = some [.lit []] := by kernel_rfl
theorem tEs33 : esz Tryz.prog 33 = some 2 := by kernel_rfl
theorem tEz33 : ezero Tryz.prog 33 = true := by kernel_rfl
theorem tAp33 : appK Tryz.prog 33 33 = some (2, 40) := by kernel_rfl
theorem tA39 : tyAgg Tryz.prog 39 = some false := by kernel_rfl
theorem tS39 : tySize Tryz.prog 39 = 1 := by kernel_rfl
theorem tEs39 : esz Tryz.prog 39 = some 1 := by kernel_rfl
theorem tEz39 : ezero Tryz.prog 39 = true := by kernel_rfl
theorem tMk39 : mkZ Tryz.prog 39 = some (1, 8, .int .i64 0) := by kernel_rfl
theorem tAp39 : appK Tryz.prog 39 39 = some (1, 8) := by kernel_rfl
theorem tA40 : tyAgg Tryz.prog 40 = some false := by kernel_rfl
theorem tS40 : tySize Tryz.prog 40 = 1 := by kernel_rfl
theorem tZ40 : zeroCells Tryz.prog 40 = some [.lit []] := by kernel_rfl
theorem tT40 : tyStr Tryz.prog 40 = false := by kernel_rfl
theorem tB40 : tyBy Tryz.prog 40 = true := by kernel_rfl
theorem tEs40 : esz Tryz.prog 40 = some 1 := by kernel_rfl
theorem tEz40 : ezero Tryz.prog 40 = true := by kernel_rfl
theorem tMk40 : mkZ Tryz.prog 40 = some (1, 1, .int .u8 0) := by kernel_rfl
theorem tAp40 : appK Tryz.prog 40 40 = some (1, 1) := by kernel_rfl
theorem tA42 : tyAgg Tryz.prog 42 = some true := by kernel_rfl
theorem tS42 : tySize Tryz.prog 42 = 2 := by kernel_rfl
theorem tZ42 : zeroCells Tryz.prog 42 = some [.d (.str []), .lit []] := by kernel_rfl
theorem tF42_0 : tyField Tryz.prog 42 0 = some (0, 9, 1) := by kernel_rfl
theorem tF42_1 : tyField Tryz.prog 42 1 = some (1, 40, 1) := by kernel_rfl
theorem tFs42 : tyFields Tryz.prog 42 = some [(0, 1), (1, 1)] := by kernel_rfl
theorem tA44 : tyAgg Tryz.prog 44 = some true := by kernel_rfl
theorem tS44 : tySize Tryz.prog 44 = 3 := by kernel_rfl
theorem tZ44 : zeroCells Tryz.prog 44 = some [.d (.bool false), .d (.str []), .lit []] := by kernel_rfl
theorem tF44_0 : tyField Tryz.prog 44 0 = some (0, 4, 1) := by kernel_rfl
theorem tF44_1 : tyField Tryz.prog 44 1 = some (1, 42, 2) := by kernel_rfl
theorem tFs44 : tyFields Tryz.prog 44 = some [(0, 1), (1, 2)] := by kernel_rfl
theorem tA51 : tyAgg Tryz.prog 51 = some false := by kernel_rfl
theorem tS51 : tySize Tryz.prog 51 = 1 := by kernel_rfl
theorem tZ51 : zeroCells Tryz.prog 51 = some [.lit []] := by kernel_rfl
theorem tEs51 : esz Tryz.prog 51 = some 1 := by kernel_rfl
theorem tEz51 : ezero Tryz.prog 51 = true := by kernel_rfl
theorem tAp51 : appK Tryz.prog 51 51 = some (1, 1) := by kernel_rfl
theorem tA53 : tyAgg Tryz.prog 53 = some true := by kernel_rfl
theorem tS53 : tySize Tryz.prog 53 = 2 := by kernel_rfl
theorem tZ53 : zeroCells Tryz.prog 53 = some [.d (.int .i64 0), .lit []] := by kernel_rfl
theorem tF53_0 : tyField Tryz.prog 53 0 = some (0, 3, 1) := by kernel_rfl
theorem tF53_1 : tyField Tryz.prog 53 1 = some (1, 51, 1) := by kernel_rfl
theorem tFs53 : tyFields Tryz.prog 53 = some [(0, 1), (1, 1)] := by kernel_rfl
theorem tEs60 : esz Tryz.prog 60 = some 5 := by kernel_rfl
theorem tA62 : tyAgg Tryz.prog 62 = some true := by kernel_rfl
theorem tS62 : tySize Tryz.prog 62 = 5 := by kernel_rfl
theorem tZ62 : zeroCells Tryz.prog 62 = some [.d (.int .i64 0), .lit [], .d (.int .i64 0), .lit [], .d (.str [])] := by kernel_rfl
theorem tF62_0 : tyField Tryz.prog 62 0 = some (0, 3, 1) := by kernel_rfl
theorem tF62_1 : tyField Tryz.prog 62 1 = some (1, 22, 1) := by kernel_rfl
theorem tF62_2 : tyField Tryz.prog 62 2 = some (2, 53, 2) := by kernel_rfl
theorem tF62_3 : tyField Tryz.prog 62 3 = some (4, 9, 1) := by kernel_rfl
theorem tA69 : tyAgg Tryz.prog 69 = some false := by kernel_rfl
theorem tS69 : tySize Tryz.prog 69 = 1 := by kernel_rfl
theorem tEs69 : esz Tryz.prog 69 = some 5 := by kernel_rfl
theorem tEz69 : ezero Tryz.prog 69 = true := by kernel_rfl
theorem tAp69 : appK Tryz.prog 69 69 = some (5, 80) := by kernel_rfl
theorem tZ71 : zeroCells Tryz.prog 71 = some [.d .nilP, .lit []] := by kernel_rfl
theorem tF71_0 : tyField Tryz.prog 71 0 = some (0, 24, 1) := by kernel_rfl
theorem tF71_1 : tyField Tryz.prog 71 1 = some (1, 69, 1) := by kernel_rfl
theorem tFs71 : tyFields Tryz.prog 71 = some [(0, 1), (1, 1)] := by kernel_rfl
theorem tA73 : tyAgg Tryz.prog 73 = some true := by kernel_rfl
theorem tS73 : tySize Tryz.prog 73 = 3 := by kernel_rfl
theorem tZ73 : zeroCells Tryz.prog 73 = some [.d (.str []), .d (.int .i64 0), .lit []] := by kernel_rfl
theorem tF73_0 : tyField Tryz.prog 73 0 = some (0, 9, 1) := by kernel_rfl
theorem tF73_1 : tyField Tryz.prog 73 1 = some (1, 3, 1) := by kernel_rfl
theorem tF73_2 : tyField Tryz.prog 73 2 = some (2, 39, 1) := by kernel_rfl
theorem tFs73 : tyFields Tryz.prog 73 = some [(0, 1), (1, 1), (2, 1)] := by kernel_rfl
theorem tA78 : tyAgg Tryz.prog 78 = some true := by kernel_rfl
theorem tS78 : tySize Tryz.prog 78 = 5 := by kernel_rfl
theorem tZ78 : zeroCells Tryz.prog 78 = some [.d (.int .i64 0), .d (.str []), .d (.int .i64 0), .lit [], .lit []] := by kernel_rfl
theorem tM78 : zeroM Tryz.prog 78 = some (.agg [.int .i64 0, .str [], .int .i64 0, .sl [], .sl []]) := by kernel_rfl
theorem tF78_0 : tyField Tryz.prog 78 0 = some (0, 3, 1) := by kernel_rfl
theorem tF78_1 : tyField Tryz.prog 78 1 = some (1, 73, 3) := by kernel_rfl
theorem tF78_2 : tyField Tryz.prog 78 2 = some (4, 40, 1) := by kernel_rfl
theorem tFs78 : tyFields Tryz.prog 78 = some [(0, 1), (1, 3), (4, 1)] := by kernel_rfl
theorem tA80 : tyAgg Tryz.prog 80 = some false := by kernel_rfl
theorem tS80 : tySize Tryz.prog 80 = 1 := by kernel_rfl
theorem tZ80 : zeroCells Tryz.prog 80 = some [.lit []] := by kernel_rfl
theorem tEs80 : esz Tryz.prog 80 = some 3 := by kernel_rfl
theorem tEz80 : ezero Tryz.prog 80 = true := by kernel_rfl
theorem tAp80 : appK Tryz.prog 80 80 = some (3, 48) := by kernel_rfl
theorem tA85 : tyAgg Tryz.prog 85 = some false := by kernel_rfl
theorem tS85 : tySize Tryz.prog 85 = 1 := by kernel_rfl
theorem tZ85 : zeroCells Tryz.prog 85 = some [.d .nilP] := by kernel_rfl
theorem tA90 : tyAgg Tryz.prog 90 = some false := by kernel_rfl
theorem tMp90 : tyMap Tryz.prog 90 = some (9, 78) := by kernel_rfl
theorem tA91 : tyAgg Tryz.prog 91 = some false := by kernel_rfl
theorem tMp91 : tyMap Tryz.prog 91 = some (9, 4) := by kernel_rfl
theorem tA92 : tyAgg Tryz.prog 92 = some false := by kernel_rfl
theorem tMp92 : tyMap Tryz.prog 92 = some (3, 4) := by kernel_rfl
theorem tA93 : tyAgg Tryz.prog 93 = some false := by kernel_rfl
theorem tS93 : tySize Tryz.prog 93 = 1 := by kernel_rfl
theorem tZ93 : zeroCells Tryz.prog 93 = some [.lit []] := by kernel_rfl
theorem tEs93 : esz Tryz.prog 93 = some 2 := by kernel_rfl
theorem tEz93 : ezero Tryz.prog 93 = true := by kernel_rfl
theorem tAp93 : appK Tryz.prog 93 93 = some (2, 32) := by kernel_rfl
theorem tZ95 : zeroCells Tryz.prog 95 = some [.d .nilM, .d .nilM, .d .nilM, .lit [], .lit []] := by kernel_rfl
theorem tF95_0 : tyField Tryz.prog 95 0 = some (0, 90, 1) := by kernel_rfl
theorem tF95_1 : tyField Tryz.prog 95 1 = some (1, 91, 1) := by kernel_rfl
theorem tF95_2 : tyField Tryz.prog 95 2 = some (2, 92, 1) := by kernel_rfl
theorem tF95_3 : tyField Tryz.prog 95 3 = some (3, 39, 1) := by kernel_rfl
theorem tF95_4 : tyField Tryz.prog 95 4 = some (4, 93, 1) := by kernel_rfl
theorem tFs95 : tyFields Tryz.prog 95 = some [(0, 1), (1, 1), (2, 1), (3, 1), (4, 1)] := by kernel_rfl
theorem tEs100 : esz Tryz.prog 100 = some 3 := by kernel_rfl
theorem tEz100 : ezero Tryz.prog 100 = true := by kernel_rfl
theorem tAp100 : appK Tryz.prog 100 100 = some (3, 48) := by kernel_rfl
theorem tA101 : tyAgg Tryz.prog 101 = some true := by kernel_rfl
theorem tS101 : tySize Tryz.prog 101 = 3 := by kernel_rfl
theorem tZ101 : zeroCells Tryz.prog 101 = some [.d (.str []), .d (.int .i64 0), .lit []] := by kernel_rfl
theorem tF101_0 : tyField Tryz.prog 101 0 = some (0, 9, 1) := by kernel_rfl
theorem tF101_1 : tyField Tryz.prog 101 1 = some (1, 3, 1) := by kernel_rfl
theorem tF101_2 : tyField Tryz.prog 101 2 = some (2, 39, 1) := by kernel_rfl
theorem tFs101 : tyFields Tryz.prog 101 = some [(0, 1), (1, 1), (2, 1)] := by kernel_rfl
theorem tA106 : tyAgg Tryz.prog 106 = some false := by kernel_rfl
theorem tS106 : tySize Tryz.prog 106 = 1 := by kernel_rfl
theorem tEs106 : esz Tryz.prog 106 = some 5 := by kernel_rfl
theorem tEz106 : ezero Tryz.prog 106 = true := by kernel_rfl
theorem tAp106 : appK Tryz.prog 106 106 = some (5, 80) := by kernel_rfl
theorem tZ108 : zeroCells Tryz.prog 108 = some [.d .nilP, .lit []] := by kernel_rfl
theorem tF108_0 : tyField Tryz.prog 108 0 = some (0, 25, 1) := by kernel_rfl
theorem tF108_1 : tyField Tryz.prog 108 1 = some (1, 106, 1) := by kernel_rfl
theorem tFs108 : tyFields Tryz.prog 108 = some [(0, 1), (1, 1)] := by kernel_rfl
theorem tA112 : tyAgg Tryz.prog 112 = some true := by kernel_rfl
theorem tS112 : tySize Tryz.prog 112 = 5 := by kernel_rfl
theorem tZ112 : zeroCells Tryz.prog 112 = some [.d (.str []), .lit [], .d (.bool false), .d (.int .i64 0), .lit []] := by kernel_rfl
theorem tF112_0 : tyField Tryz.prog 112 0 = some (0, 9, 1) := by kernel_rfl
theorem tF112_1 : tyField Tryz.prog 112 1 = some (1, 40, 1) := by kernel_rfl
theorem tF112_2 : tyField Tryz.prog 112 2 = some (2, 4, 1) := by kernel_rfl
theorem tF112_3 : tyField Tryz.prog 112 3 = some (3, 3, 1) := by kernel_rfl
theorem tF112_4 : tyField Tryz.prog 112 4 = some (4, 39, 1) := by kernel_rfl
theorem tFs112 : tyFields Tryz.prog 112 = some [(0, 1), (1, 1), (2, 1), (3, 1), (4, 1)] := by kernel_rfl
theorem tA118 : tyAgg Tryz.prog 118 = some false := by kernel_rfl
theorem tS118 : tySize Tryz.prog 118 = 1 := by kernel_rfl
theorem tEs118 : esz Tryz.prog 118 = some 1 := by kernel_rfl
theorem tEz118 : ezero Tryz.prog 118 = true := by kernel_rfl
theorem tAp118 : appK Tryz.prog 118 118 = some (1, 24) := by kernel_rfl
theorem tZ120 : zeroCells Tryz.prog 120 = some [.lit [], .lit [], .d (.int .i64 0), .lit [], .d (.bool false), .d (.bool false), .d (.int .i64 0)] := by kernel_rfl
theorem tF120_0 : tyField Tryz.prog 120 0 = some (0, 118, 1) := by kernel_rfl
theorem tF120_1 : tyField Tryz.prog 120 1 = some (1, 93, 1) := by kernel_rfl
theorem tF120_2 : tyField Tryz.prog 120 2 = some (2, 53, 2) := by kernel_rfl
theorem tF120_3 : tyField Tryz.prog 120 3 = some (4, 4, 1) := by kernel_rfl
theorem tF120_4 : tyField Tryz.prog 120 4 = some (5, 4, 1) := by kernel_rfl
theorem tF120_5 : tyField Tryz.prog 120 5 = some (6, 3, 1) := by kernel_rfl
theorem tFs120 : tyFields Tryz.prog 120 = some [(0, 1), (1, 1), (2, 2), (4, 1), (5, 1), (6, 1)] := by kernel_rfl
theorem tZ122 : zeroCells Tryz.prog 122 = some [.lit [], .lit [], .d (.int .i64 0), .d (.int .i64 0), .lit [], .d (.bool false), .d (.bool false)] := by kernel_rfl
theorem tF122_0 : tyField Tryz.prog 122 0 = some (0, 118, 1) := by kernel_rfl
theorem tF122_1 : tyField Tryz.prog 122 1 = some (1, 93, 1) := by kernel_rfl
theorem tF122_2 : tyField Tryz.prog 122 2 = some (2, 3, 1) := by kernel_rfl
theorem tF122_3 : tyField Tryz.prog 122 3 = some (3, 53, 2) := by kernel_rfl
theorem tF122_4 : tyField Tryz.prog 122 4 = some (5, 4, 1) := by kernel_rfl
theorem tF122_5 : tyField Tryz.prog 122 5 = some (6, 4, 1) := by kernel_rfl
theorem tFs122 : tyFields Tryz.prog 122 = some [(0, 1), (1, 1), (2, 1), (3, 2), (5, 1), (6, 1)] := by kernel_rfl
theorem tA143 : tyAgg Tryz.prog 143 = some false := by kernel_rfl
theorem tS143 : tySize Tryz.prog 143 = 1 := by kernel_rfl
theorem tZ143 : zeroCells Tryz.prog 143 = some [.d .nilM] := by kernel_rfl
theorem tMp143 : tyMap Tryz.prog 143 = some (9, 3) := by kernel_rfl
theorem tEs144 : esz Tryz.prog 144 = some 1 := by kernel_rfl
theorem tEz144 : ezero Tryz.prog 144 = true := by kernel_rfl
theorem tAp144 : appK Tryz.prog 144 144 = some (1, 16) := by kernel_rfl
theorem tA148 : tyAgg Tryz.prog 148 = some true := by kernel_rfl
theorem tS148 : tySize Tryz.prog 148 = 2 := by kernel_rfl
theorem tZ148 : zeroCells Tryz.prog 148 = some [.d (.int .i64 0), .lit []] := by kernel_rfl
theorem tF148_0 : tyField Tryz.prog 148 0 = some (0, 3, 1) := by kernel_rfl
theorem tF148_1 : tyField Tryz.prog 148 1 = some (1, 40, 1) := by kernel_rfl
theorem tFs148 : tyFields Tryz.prog 148 = some [(0, 1), (1, 1)] := by kernel_rfl
attribute [simp] tA3 tS3 tM3 tK3 tA4 tS4 tZ4 tM4 tA5 tS5
attribute [simp] tA9 tS9 tT9 tK9 tA22 tEs22 tEz22
attribute [simp] tA24 tA25 tA28
attribute [simp] tA33 tS33 tZ33 tEs33 tEz33 tAp33 tA39 tS39 tEs39 tEz39 tMk39 tAp39 tA40 tS40 tZ40
attribute [simp] tT40 tB40 tEs40 tEz40 tMk40 tAp40 tA42 tS42 tZ42 tF42_0 tF42_1 tFs42
attribute [simp] tA44 tS44 tZ44 tF44_0 tF44_1 tFs44 tA51 tS51 tZ51 tEs51 tEz51 tAp51
attribute [simp] tA53 tS53 tZ53 tF53_0 tF53_1 tFs53
attribute [simp] tEs60 tA62 tS62 tZ62 tF62_0 tF62_1 tF62_2 tF62_3
attribute [simp] tA69 tS69 tEs69 tEz69 tAp69 tZ71 tF71_0 tF71_1 tFs71
attribute [simp] tA73 tS73 tZ73 tF73_0 tF73_1 tF73_2 tFs73 tA78
attribute [simp] tS78 tZ78 tM78 tF78_0 tF78_1 tF78_2 tFs78 tA80 tS80 tZ80 tEs80 tEz80 tAp80 tA85 tS85 tZ85
attribute [simp] tA90 tMp90 tA91 tMp91 tA92 tMp92 tA93 tS93 tZ93
attribute [simp] tEs93 tEz93 tAp93 tZ95 tF95_0 tF95_1 tF95_2 tF95_3 tF95_4 tFs95
attribute [simp] tEs100 tEz100 tAp100 tA101 tS101 tZ101 tF101_0 tF101_1 tF101_2 tFs101 tA106 tS106
attribute [simp] tEs106 tEz106 tAp106 tZ108 tF108_0 tF108_1 tFs108
attribute [simp] tA112 tS112 tZ112 tF112_0 tF112_1 tF112_2 tF112_3 tF112_4 tFs112 tA118 tS118 tEs118 tEz118 tAp118
attribute [simp] tZ120 tF120_0 tF120_1 tF120_2 tF120_3 tF120_4 tF120_5 tFs120
attribute [simp] tZ122 tF122_0 tF122_1 tF122_2 tF122_3 tF122_4 tF122_5 tFs122
attribute [simp] tA143 tS143 tZ143 tMp143 tEs144 tEz144
attribute [simp] tAp144 tA148 tS148 tZ148 tF148_0 tF148_1 tFs148
end Go.VM
