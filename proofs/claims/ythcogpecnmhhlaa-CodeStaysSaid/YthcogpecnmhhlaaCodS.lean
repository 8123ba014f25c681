/- What the program's functions 56,88,57,58,25,28,24,26,10 compute (numbers of this seat): contracts, walked by the engine. -/
import Derived.Test.YthcogpecnmhhlaaEngU
import Derived.Test.YthcogpecnmhhlaaCodR
import Derived.Test.YthcogpecnmhhlaaProg
namespace Go.Eng
open Go Go.Proofs
set_option maxRecDepth 100000
set_option linter.all false
def c10 : Cd := (.seq (.reg [o1 2 (.box true 4 (.t 0)), o1 3 (.box true 4 (.t 1)), o1 4 (.mv (.c (.bool false)))] false) (.seq (.seq (.reg [o1 10 (.fa 0 (.t 2)), o1 11 (.ld false 1 (.t 10)), o1 12 (.fa 0 (.t 3)), o1 13 (.ld false 1 (.t 12)), o1 14 (.bin .neq (.t 11) (.t 13)), o1 15 (.mv (.t 14)), og 16 15 false (.fa 1 (.t 2)), og 17 15 false (.ld false 1 (.t 16)), og 18 15 false (.len (.t 17)), og 19 15 false (.fa 1 (.t 3)), og 20 15 false (.ld false 1 (.t 19)), og 21 15 false (.len (.t 20)), og 22 15 false (.bin .neq (.t 18) (.t 21)), o1 23 (.pick (.t 15) (.c (.bool true)) (.t 22)), o1 24 (.mv (.t 23)), og 25 24 false (.fa 2 (.t 2)), og 26 24 false (.ld false 1 (.t 25)), og 27 24 false (.len (.t 26)), og 28 24 false (.fa 2 (.t 3)), og 29 24 false (.ld false 1 (.t 28)), og 30 24 false (.len (.t 29)), og 31 24 false (.bin .neq (.t 27) (.t 30)), o1 32 (.pick (.t 24) (.c (.bool true)) (.t 31)), o1 33 (.mv (.t 32)), og 34 33 false (.fa 3 (.t 2)), og 35 33 false (.ld false 1 (.t 34)), og 36 33 false (.len (.t 35)), og 37 33 false (.fa 3 (.t 3)), og 38 33 false (.ld false 1 (.t 37)), og 39 33 false (.len (.t 38)), og 40 33 false (.bin .neq (.t 36) (.t 39)), o1 41 (.pick (.t 33) (.c (.bool true)) (.t 40))] false) (.cond (.t 41) (.seq (.reg [o1 4 (.mv (.c (.bool false)))] false) .ret) .skip)) (.seq (.seq (.reg [o1 5 (.mv (cI 0))] false) (.blk 0 (.loop (.seq (.seq (.reg [o1 42 (.mv (.t 5)), o1 43 (.fa 1 (.t 2)), o1 44 (.ld false 1 (.t 43)), o1 45 (.len (.t 44)), o1 46 (.bin .lss (.t 42) (.t 45))] false) (.cond (.t 46) .skip (.exit 0))) (.seq (.blk 1 (.seq (.reg [oa 49 [] (.fa 1 (.t 2)), oa 50 [0] (.ld false 1 (.t 49)), oa 51 [] (.mv (.t 5)), oa 52 [1, 2] (.ia 2 (.t 50) (.t 51)), oa 53 [3] (.fa 0 (.t 52)), oa 54 [4] (.ld false 1 (.t 53)), oa 55 [] (.fa 1 (.t 3)), oa 56 [6] (.ld false 1 (.t 55)), oa 57 [] (.mv (.t 5)), oa 58 [7, 8] (.ia 2 (.t 56) (.t 57)), oa 59 [9] (.fa 0 (.t 58)), oa 60 [10] (.ld false 1 (.t 59)), oa 61 [5, 11] (.bin .neq (.t 54) (.t 60)), oa 62 [12] (.mv (.t 61)), oga 63 62 false [13] (.fa 1 (.t 2)), oga 64 62 false [14, 13] (.ld false 1 (.t 63)), oga 65 62 false [13] (.mv (.t 5)), oga 66 62 false [15, 16, 13] (.ia 2 (.t 64) (.t 65)), oga 67 62 false [17, 13] (.fa 1 (.t 66)), oga 68 62 false [18, 13] (.ld false 1 (.t 67)), oga 69 62 false [13] (.fa 1 (.t 3)), oga 70 62 false [20, 13] (.ld false 1 (.t 69)), oga 71 62 false [13] (.mv (.t 5)), oga 72 62 false [21, 22, 13] (.ia 2 (.t 70) (.t 71)), oga 73 62 false [23, 13] (.fa 1 (.t 72)), oga 74 62 false [24, 13] (.ld false 1 (.t 73)), oga 75 62 false [19, 25, 13, 13] (.callw 25 [(.t 68), (.t 74)]), oga 76 62 false [26, 13] (.not (.t 75)), oa 77 [13, 27] (.pick (.t 62) (.c (.bool true)) (.t 76))] true) (.cond (.t 77) (.seq (.reg [o1 4 (.mv (.c (.bool false)))] false) .ret) .skip))) (.reg [o1 47 (.mv (.t 5)), o1 48 (.bin .add (.t 47) (cI 1)), o1 5 (.mv (.t 48))] false)))))) (.seq (.seq (.reg [o1 6 (.mv (cI 0))] false) (.blk 2 (.loop (.seq (.seq (.reg [o1 78 (.mv (.t 6)), o1 79 (.fa 2 (.t 2)), o1 80 (.ld false 1 (.t 79)), o1 81 (.len (.t 80)), o1 82 (.bin .lss (.t 78) (.t 81))] false) (.cond (.t 82) .skip (.exit 2))) (.seq (.blk 3 (.seq (.reg [oa 85 [] (.fa 2 (.t 2)), oa 86 [0] (.ld false 1 (.t 85)), oa 87 [] (.mv (.t 6)), oa 88 [1, 2] (.ia 4 (.t 86) (.t 87)), oa 89 [3] (.ld true 4 (.t 88)), oa 90 [] (.fa 2 (.t 3)), oa 91 [5] (.ldf [7] false 1 (.t 90)), oa 92 [] (.mv (.t 6)), oa 93 [6, 7] (.ia 4 (.t 91) (.t 92)), oa 94 [8] (.ldf [7] true 4 (.t 93)), oa 7 [] (.new [.str ByteArray.empty, .nils, .str ByteArray.empty, .int .i64 0]), oa 8 [] (.new [.str ByteArray.empty, .nils, .str ByteArray.empty, .int .i64 0]), ob [10, 4, 0, 1, 2, 3, 4, 10, 11] (.st 4 (.t 7) (.t 89)), ob [11, 9, 12, 0, 1, 2, 3, 4, 5, 6, 7, 8, 9, 10, 11, 12] (.st 4 (.t 8) (.t 94))] true) (.seq (.reg [o1 95 (.fa 0 (.t 7)), o1 96 (.ld false 1 (.t 95)), o1 97 (.fa 0 (.t 8)), o1 98 (.ld false 1 (.t 97)), o1 99 (.bin .neq (.t 96) (.t 98)), o1 100 (.mv (.t 99)), og 101 100 false (.fa 2 (.t 7)), og 102 100 false (.ld false 1 (.t 101)), og 103 100 false (.fa 2 (.t 8)), og 104 100 false (.ld false 1 (.t 103)), og 105 100 false (.bin .neq (.t 102) (.t 104)), o1 106 (.pick (.t 100) (.c (.bool true)) (.t 105)), o1 107 (.mv (.t 106)), og 108 107 false (.fa 3 (.t 7)), og 109 107 false (.ld false 1 (.t 108)), og 110 107 false (.fa 3 (.t 8)), og 111 107 false (.ld false 1 (.t 110)), og 112 107 false (.bin .neq (.t 109) (.t 111)), o1 113 (.pick (.t 107) (.c (.bool true)) (.t 112)), o1 114 (.mv (.t 113)), og 115 114 false (.fa 1 (.t 7)), og 116 114 false (.ld false 1 (.t 115)), og 117 114 false (.fa 1 (.t 8)), og 118 114 false (.ld false 1 (.t 117)), og 119 114 false (.call 25 [(.t 116), (.t 118)]), og 120 114 false (.not (.t 119)), o1 121 (.pick (.t 114) (.c (.bool true)) (.t 120))] false) (.cond (.t 121) (.seq (.reg [o1 4 (.mv (.c (.bool false)))] false) .ret) .skip)))) (.reg [o1 83 (.mv (.t 6)), o1 84 (.bin .add (.t 83) (cI 1)), o1 6 (.mv (.t 84))] false)))))) (.seq (.seq (.reg [o1 9 (.mv (cI 0))] false) (.blk 4 (.loop (.seq (.seq (.reg [o1 122 (.mv (.t 9)), o1 123 (.fa 3 (.t 2)), o1 124 (.ld false 1 (.t 123)), o1 125 (.len (.t 124)), o1 126 (.bin .lss (.t 122) (.t 125))] false) (.cond (.t 126) .skip (.exit 4))) (.seq (.blk 5 (.seq (.reg [oa 129 [] (.fa 3 (.t 2)), oa 130 [0] (.ld false 1 (.t 129)), oa 131 [] (.mv (.t 9)), oa 132 [1, 2] (.ia 8 (.t 130) (.t 131)), oa 133 [3] (.ld true 8 (.t 132)), oa 134 [] (.fa 3 (.t 3)), oa 135 [5] (.ld false 1 (.t 134)), oa 136 [] (.mv (.t 9)), oa 137 [6, 7] (.ia 8 (.t 135) (.t 136)), oa 138 [8] (.ld true 8 (.t 137)), oa 139 [4, 9] (.callw 26 [(.t 133), (.t 138)]), oa 140 [10] (.not (.t 139))] true) (.cond (.t 140) (.seq (.reg [o1 4 (.mv (.c (.bool false)))] false) .ret) .skip))) (.reg [o1 127 (.mv (.t 9)), o1 128 (.bin .add (.t 127) (cI 1)), o1 9 (.mv (.t 128))] false)))))) (.seq (.reg [o1 4 (.mv (.c (.bool true)))] false) .ret))))))
theorem tr10 : tr Try.prog (Try.f10.body.getD .skip) = some c10 := by kernel_rfl
def c24 : Cd := (.seq (.reg [o1 1 (.box true 8 (.t 0)), o1 2 (.mv (.c (.nils)))] false) (.seq (.reg [o1 7 (.bs 3 1 0 []), o1 3 (.mv (.t 7))] false) (.seq (.reg [o1 8 (.fa 3 (.t 1)), o1 9 (.ld false 1 (.t 8)), o1 10 (.fa 4 (.t 1)), o1 11 (.ld false 1 (.t 10)), o1 12 (.fa 5 (.t 1)), o1 13 (.ld false 1 (.t 12)), o1 14 (.bs 3 1 3 [(.t 9), (.t 11), (.t 13)]), o1 4 (.mv (.t 14))] false) (.seq (.seq (.reg [o1 5 (.mv (cI 0))] false) (.blk 0 (.loop (.seq (.seq (.reg [o1 15 (.mv (.t 5)), o1 16 (.bin .lss (.t 15) (cI 3))] false) (.cond (.t 16) .skip (.exit 0))) (.seq (.blk 1 (.seq (.reg [o1 19 (.mv (.t 4)), o1 20 (.mv (.t 5)), o1 21 (.ia 1 (.t 19) (.t 20)), o1 22 (.ld false 1 (.t 21)), o1 23 (.bin .neq (.t 22) (cI (-1)))] false) (.cond (.t 23) (.reg [o1 24 (.mv (.t 3)), o1 25 (.mv (.t 4)), o1 26 (.mv (.t 5)), o1 27 (.ia 1 (.t 25) (.t 26)), o1 28 (.ld false 1 (.t 27)), o1 29 (.bs 3 1 1 [(.t 28)]), o1 30 (.app 3 1 8 (.t 24) (.t 29)), o1 3 (.mv (.t 30))] false) .skip))) (.reg [o1 17 (.mv (.t 5)), o1 18 (.bin .add (.t 17) (cI 1)), o1 5 (.mv (.t 18))] false)))))) (.seq (.reg [o1 31 (.mv (.t 3)), o1 32 (.fa 6 (.t 1)), o1 33 (.ld false 1 (.t 32)), o1 34 (.app 3 1 8 (.t 31) (.t 33)), o1 3 (.mv (.t 34))] false) (.seq (.seq (.reg [o1 6 (.mv (cI 0))] false) (.blk 2 (.loop (.seq (.seq (.reg [o1 35 (.mv (.t 6)), o1 36 (.fa 7 (.t 1)), o1 37 (.ld false 1 (.t 36)), o1 38 (.len (.t 37)), o1 39 (.bin .lss (.t 35) (.t 38))] false) (.cond (.t 39) .skip (.exit 2))) (.seq (.blk 3 (.reg [o1 42 (.mv (.t 3)), o1 43 (.fa 7 (.t 1)), o1 44 (.ld false 1 (.t 43)), o1 45 (.mv (.t 6)), o1 46 (.ia 2 (.t 44) (.t 45)), o1 47 (.fa 1 (.t 46)), o1 48 (.ld false 1 (.t 47)), o1 49 (.bs 3 1 1 [(.t 48)]), o1 50 (.app 3 1 8 (.t 42) (.t 49)), o1 3 (.mv (.t 50))] false)) (.reg [o1 40 (.mv (.t 6)), o1 41 (.bin .add (.t 40) (cI 1)), o1 6 (.mv (.t 41))] false)))))) (.seq (.reg [o1 51 (.mv (.t 3)), o1 2 (.mv (.t 51))] false) .ret)))))))
theorem tr24 : tr Try.prog (Try.f24.body.getD .skip) = some c24 := by kernel_rfl
def c25 : Cd := (.seq (.reg [o1 4 (.mv (.c (.bool false)))] false) (.seq (.seq (.reg [o1 6 (.mv (.t 0)), o1 7 (.len (.t 6)), o1 8 (.mv (.t 1)), o1 9 (.len (.t 8)), o1 10 (.bin .neq (.t 7) (.t 9))] false) (.cond (.t 10) (.seq (.reg [o1 4 (.mv (.c (.bool false)))] false) .ret) .skip)) (.seq (.seq (.reg [o1 5 (.mv (cI 0))] false) (.blk 0 (.loop (.seq (.seq (.reg [o1 11 (.mv (.t 5)), o1 12 (.mv (.t 0)), o1 13 (.len (.t 12)), o1 14 (.bin .lss (.t 11) (.t 13))] false) (.cond (.t 14) .skip (.exit 0))) (.seq (.blk 1 (.seq (.reg [oa 17 [] (.mv (.t 0)), oa 18 [] (.mv (.t 5)), oa 19 [0, 1] (.ia 2 (.t 17) (.t 18)), oa 20 [2] (.ld true 2 (.t 19)), oa 21 [] (.mv (.t 1)), oa 22 [] (.mv (.t 5)), oa 23 [4, 5] (.ia 2 (.t 21) (.t 22)), oa 24 [6] (.ld true 2 (.t 23)), oa 25 [3, 7] (.eqs true [2, 2] (.t 20) (.t 24))] true) (.cond (.t 25) (.seq (.reg [o1 4 (.mv (.c (.bool false)))] false) .ret) .skip))) (.reg [o1 15 (.mv (.t 5)), o1 16 (.bin .add (.t 15) (cI 1)), o1 5 (.mv (.t 16))] false)))))) (.seq (.reg [o1 4 (.mv (.c (.bool true)))] false) .ret))))
theorem tr25 : tr Try.prog (Try.f25.body.getD .skip) = some c25 := by kernel_rfl
def c26 : Cd := (.seq (.reg [o1 2 (.box true 8 (.t 0)), o1 3 (.box true 8 (.t 1)), o1 4 (.mv (.c (.bool false)))] false) (.seq (.seq (.reg [o1 6 (.fa 0 (.t 2)), o1 7 (.ld false 1 (.t 6)), o1 8 (.fa 0 (.t 3)), o1 9 (.ld false 1 (.t 8)), o1 10 (.bin .neq (.t 7) (.t 9)), o1 11 (.mv (.t 10)), og 12 11 false (.fa 1 (.t 2)), og 13 11 false (.ld false 1 (.t 12)), og 14 11 false (.fa 1 (.t 3)), og 15 11 false (.ld false 1 (.t 14)), og 16 11 false (.bin .neq (.t 13) (.t 15)), o1 17 (.pick (.t 11) (.c (.bool true)) (.t 16)), o1 18 (.mv (.t 17)), og 19 18 false (.fa 2 (.t 2)), og 20 18 false (.ld false 1 (.t 19)), og 21 18 false (.fa 2 (.t 3)), og 22 18 false (.ld false 1 (.t 21)), og 23 18 false (.bin .neq (.t 20) (.t 22)), o1 24 (.pick (.t 18) (.c (.bool true)) (.t 23)), o1 25 (.mv (.t 24)), og 26 25 false (.fa 3 (.t 2)), og 27 25 false (.ld false 1 (.t 26)), og 28 25 false (.fa 3 (.t 3)), og 29 25 false (.ld false 1 (.t 28)), og 30 25 false (.bin .neq (.t 27) (.t 29)), o1 31 (.pick (.t 25) (.c (.bool true)) (.t 30)), o1 32 (.mv (.t 31)), og 33 32 false (.fa 4 (.t 2)), og 34 32 false (.ld false 1 (.t 33)), og 35 32 false (.fa 4 (.t 3)), og 36 32 false (.ld false 1 (.t 35)), og 37 32 false (.bin .neq (.t 34) (.t 36)), o1 38 (.pick (.t 32) (.c (.bool true)) (.t 37)), o1 39 (.mv (.t 38)), og 40 39 false (.fa 5 (.t 2)), og 41 39 false (.ld false 1 (.t 40)), og 42 39 false (.fa 5 (.t 3)), og 43 39 false (.ld false 1 (.t 42)), og 44 39 false (.bin .neq (.t 41) (.t 43)), o1 45 (.pick (.t 39) (.c (.bool true)) (.t 44)), o1 46 (.mv (.t 45)), og 47 46 false (.fa 6 (.t 2)), og 48 46 false (.ld false 1 (.t 47)), og 49 46 false (.fa 6 (.t 3)), og 50 46 false (.ld false 1 (.t 49)), og 51 46 false (.call 58 [(.t 48), (.t 50)]), og 52 46 false (.not (.t 51)), o1 53 (.pick (.t 46) (.c (.bool true)) (.t 52)), o1 54 (.mv (.t 53)), og 55 54 false (.fa 7 (.t 2)), og 56 54 false (.ld false 1 (.t 55)), og 57 54 false (.len (.t 56)), og 58 54 false (.fa 7 (.t 3)), og 59 54 false (.ld false 1 (.t 58)), og 60 54 false (.len (.t 59)), og 61 54 false (.bin .neq (.t 57) (.t 60)), o1 62 (.pick (.t 54) (.c (.bool true)) (.t 61))] false) (.cond (.t 62) (.seq (.reg [o1 4 (.mv (.c (.bool false)))] false) .ret) .skip)) (.seq (.seq (.reg [o1 5 (.mv (cI 0))] false) (.blk 0 (.loop (.seq (.seq (.reg [o1 63 (.mv (.t 5)), o1 64 (.fa 7 (.t 2)), o1 65 (.ld false 1 (.t 64)), o1 66 (.len (.t 65)), o1 67 (.bin .lss (.t 63) (.t 66))] false) (.cond (.t 67) .skip (.exit 0))) (.seq (.blk 1 (.seq (.reg [oa 70 [] (.fa 7 (.t 2)), oa 71 [0] (.ld false 1 (.t 70)), oa 72 [] (.mv (.t 5)), oa 73 [1, 2] (.ia 2 (.t 71) (.t 72)), oa 74 [3] (.fa 1 (.t 73)), oa 75 [4] (.ld false 1 (.t 74)), oa 76 [] (.fa 7 (.t 3)), oa 77 [6] (.ld false 1 (.t 76)), oa 78 [] (.mv (.t 5)), oa 79 [7, 8] (.ia 2 (.t 77) (.t 78)), oa 80 [9] (.fa 1 (.t 79)), oa 81 [10] (.ld false 1 (.t 80)), oa 82 [5, 11] (.bin .neq (.t 75) (.t 81)), oa 83 [12] (.mv (.t 82)), oga 84 83 false [13] (.fa 7 (.t 2)), oga 85 83 false [14, 13] (.ld false 1 (.t 84)), oga 86 83 false [13] (.mv (.t 5)), oga 87 83 false [15, 16, 13] (.ia 2 (.t 85) (.t 86)), oga 88 83 false [17, 13] (.fa 0 (.t 87)), oga 89 83 false [18, 13] (.ld false 1 (.t 88)), oga 90 83 false [13] (.fa 7 (.t 3)), oga 91 83 false [20, 13] (.ld false 1 (.t 90)), oga 92 83 false [13] (.mv (.t 5)), oga 93 83 false [21, 22, 13] (.ia 2 (.t 91) (.t 92)), oga 94 83 false [23, 13] (.fa 0 (.t 93)), oga 95 83 false [24, 13] (.ld false 1 (.t 94)), oga 96 83 false [19, 25, 13, 13] (.callw 58 [(.t 89), (.t 95)]), oga 97 83 false [26, 13] (.not (.t 96)), oa 98 [13, 27] (.pick (.t 83) (.c (.bool true)) (.t 97))] true) (.cond (.t 98) (.seq (.reg [o1 4 (.mv (.c (.bool false)))] false) .ret) .skip))) (.reg [o1 68 (.mv (.t 5)), o1 69 (.bin .add (.t 68) (cI 1)), o1 5 (.mv (.t 69))] false)))))) (.seq (.reg [o1 4 (.mv (.c (.bool true)))] false) .ret))))
theorem tr26 : tr Try.prog (Try.f26.body.getD .skip) = some c26 := by kernel_rfl
def c28 : Cd := (.seq (.reg [o1 2 (.mv (.c (.nils)))] false) (.seq (.reg [o1 3 (.bs 3 1 0 []), o1 4 (.mv (.t 0)), o1 5 (.app 3 1 8 (.t 3) (.t 4)), o1 2 (.mv (.t 5))] false) .ret))
theorem tr28 : tr Try.prog (Try.f28.body.getD .skip) = some c28 := by kernel_rfl
def c56 : Cd := (.seq (.reg [o1 2 (.mv (.c (.bool false)))] false) (.seq (.reg [o1 3 (.mv (.t 0)), o1 4 (.bin .geq (.t 3) (cI 0)), o1 5 (.mv (.t 4)), og 6 5 true (.mv (.t 0)), og 7 5 true (.bin .leq (.t 6) (cI 2147483647)), o1 8 (.pick (.t 5) (.t 7) (.c (.bool false))), o1 2 (.mv (.t 8))] false) .ret))
theorem tr56 : tr Try.prog (Try.f56.body.getD .skip) = some c56 := by kernel_rfl
def c57 : Cd := (.seq (.reg [o1 5 (.box true 4 (.t 0)), o1 10 (.mv (.c (.bool false)))] false) (.seq (.seq (.reg [o1 11 (.mv (.t 2)), o1 12 (.bin .eql (.t 11) (cI (-1)))] false) (.cond (.t 12) (.seq (.reg [o1 13 (.mv (.t 4)), o1 14 (.not (.t 13)), o1 10 (.mv (.t 14))] false) .ret) .skip)) (.seq (.reg [o1 15 (.mv (.t 2)), o1 16 (.mv (.t 1)), o1 17 (.bin .gtr (.t 15) (.t 16)), o1 18 (.mv (.t 17)), og 19 18 true (.mv (.t 2)), og 20 18 true (.fa 3 (.t 5)), og 21 18 true (.ld false 1 (.t 20)), og 22 18 true (.len (.t 21)), og 23 18 true (.bin .lss (.t 19) (.t 22)), o1 24 (.pick (.t 18) (.t 23) (.c (.bool false))), o1 25 (.mv (.t 24)), og 26 25 true (.fa 3 (.t 5)), og 27 25 true (.ld false 1 (.t 26)), og 28 25 true (.mv (.t 2)), og 29 25 true (.ia 8 (.t 27) (.t 28)), og 30 25 true (.fa 0 (.t 29)), og 31 25 true (.ld false 1 (.t 30)), og 32 25 true (.mv (.t 3)), og 33 25 true (.call 88 [(.t 31), (.t 32)]), o1 34 (.pick (.t 25) (.t 33) (.c (.bool false))), o1 10 (.mv (.t 34))] false) .ret)))
theorem tr57 : tr Try.prog (Try.f57.body.getD .skip) = some c57 := by kernel_rfl
def c58 : Cd := (.seq (.reg [o1 4 (.mv (.c (.bool false)))] false) (.seq (.seq (.reg [o1 6 (.mv (.t 0)), o1 7 (.len (.t 6)), o1 8 (.mv (.t 1)), o1 9 (.len (.t 8)), o1 10 (.bin .neq (.t 7) (.t 9))] false) (.cond (.t 10) (.seq (.reg [o1 4 (.mv (.c (.bool false)))] false) .ret) .skip)) (.seq (.seq (.reg [o1 5 (.mv (cI 0))] false) (.blk 0 (.loop (.seq (.seq (.reg [o1 11 (.mv (.t 5)), o1 12 (.mv (.t 0)), o1 13 (.len (.t 12)), o1 14 (.bin .lss (.t 11) (.t 13))] false) (.cond (.t 14) .skip (.exit 0))) (.seq (.blk 1 (.seq (.reg [oa 17 [] (.mv (.t 0)), oa 18 [] (.mv (.t 5)), oa 19 [0, 1] (.ia 1 (.t 17) (.t 18)), oa 20 [2] (.ld false 1 (.t 19)), oa 21 [] (.mv (.t 1)), oa 22 [] (.mv (.t 5)), oa 23 [4, 5] (.ia 1 (.t 21) (.t 22)), oa 24 [6] (.ld false 1 (.t 23)), oa 25 [3, 7] (.bin .neq (.t 20) (.t 24))] true) (.cond (.t 25) (.seq (.reg [o1 4 (.mv (.c (.bool false)))] false) .ret) .skip))) (.reg [o1 15 (.mv (.t 5)), o1 16 (.bin .add (.t 15) (cI 1)), o1 5 (.mv (.t 16))] false)))))) (.seq (.reg [o1 4 (.mv (.c (.bool true)))] false) .ret))))
theorem tr58 : tr Try.prog (Try.f58.body.getD .skip) = some c58 := by kernel_rfl
def c88 : Cd := (.seq (.reg [o1 4 (.mv (.c (.bool false)))] false) (.seq (.seq (.reg [o1 5 (.mv (.t 1))] false) (.blk 0 (.seq (.reg [o1 7 (.bin .eql (.t 5) (cI 1)), o1 6 (.mv (.t 7))] false) (.cond (.t 6) (.seq (.reg [o1 8 (.mv (.t 0)), o1 9 (.bin .geq (.t 8) (cI 1)), o1 10 (.mv (.t 9)), og 11 10 true (.mv (.t 0)), og 12 10 true (.bin .leq (.t 11) (cI 10)), o1 13 (.pick (.t 10) (.t 12) (.c (.bool false))), o1 4 (.mv (.t 13))] false) .ret) (.seq (.reg [o1 15 (.bin .eql (.t 5) (cI 2)), o1 14 (.mv (.t 15))] false) (.cond (.t 14) (.seq (.reg [o1 16 (.mv (.t 0)), o1 17 (.bin .eql (.t 16) (cI 11)), o1 4 (.mv (.t 17))] false) .ret) (.seq (.reg [o1 19 (.bin .eql (.t 5) (cI 3)), o1 18 (.mv (.t 19))] false) (.cond (.t 18) (.seq (.reg [o1 20 (.mv (.t 0)), o1 21 (.bin .geq (.t 20) (cI 12)), o1 22 (.mv (.t 21)), og 23 22 true (.mv (.t 0)), og 24 22 true (.bin .leq (.t 23) (cI 18)), o1 25 (.pick (.t 22) (.t 24) (.c (.bool false))), o1 4 (.mv (.t 25))] false) .ret) (.seq (.reg [o1 27 (.bin .eql (.t 5) (cI 4)), o1 26 (.mv (.t 27))] false) (.cond (.t 26) (.seq (.reg [o1 28 (.mv (.t 0)), o1 29 (.bin .eql (.t 28) (cI 11)), o1 30 (.mv (.t 29)), og 31 30 false (.mv (.t 0)), og 32 30 false (.bin .eql (.t 31) (cI 14)), o1 33 (.pick (.t 30) (.c (.bool true)) (.t 32)), o1 4 (.mv (.t 33))] false) .ret) (.seq (.reg [o1 35 (.bin .eql (.t 5) (cI 5)), o1 34 (.mv (.t 35))] false) (.cond (.t 34) (.seq (.reg [o1 36 (.mv (.t 0)), o1 37 (.bin .eql (.t 36) (cI 4)), o1 38 (.mv (.t 37)), og 39 38 false (.mv (.t 0)), og 40 38 false (.bin .eql (.t 39) (cI 9)), o1 41 (.pick (.t 38) (.c (.bool true)) (.t 40)), o1 4 (.mv (.t 41))] false) .ret) .skip)))))))))))) (.seq (.reg [o1 42 (.mv (.t 0)), o1 43 (.bin .eql (.t 42) (cI 8)), o1 4 (.mv (.t 43))] false) .ret)))
theorem tr88 : tr Try.prog (Try.f88.body.getD .skip) = some c88 := by kernel_rfl
set_option maxHeartbeats 2000000
theorem rnum_pure (k : Int) : Pure Try.prog 56 [i64 k] (.bool (numB k)) := by
  refine walk_of mo Try.func56 tr56 (rs := [.tmp 2]) (by rfl) (by rfl) ?_
  unfold c56 numB
  by_cases h : (0 : Int) ≤ k <;> simp [h]
def isB (k w : Int) : Bool :=
  if w = 1 then exprB k else if w = 2 then blockB k else if w = 3 then stmtB k else if w = 4 then otherB k else if w = 5 then placeB k else callB k
theorem is_pure (k w : Int) : Pure Try.prog 88 [i64 k, i64 w] (.bool (isB k w)) := by
  refine walk_of mo Try.func88 tr88 (rs := [.tmp 4]) (by rfl) (by rfl) ?_
  unfold c88 isB
  by_cases h1 : w = 1
  · by_cases q : (1 : Int) ≤ k <;> simp [h1, q, exprB]
  · by_cases h2 : w = 2
    · simp [h2, blockB]
    · by_cases h3 : w = 3
      · by_cases q : (12 : Int) ≤ k <;> simp [h3, q, stmtB]
      · by_cases h4 : w = 4
        · by_cases q : k = 11 <;> simp [h4, q, otherB]
        · by_cases h5 : w = 5
          · by_cases q : k = 4 <;> simp [h5, q, placeB]
          · simp [h1, h2, h3, h4, h5, callB]
def Cod.childR (c : Cod) (pl i w : Int) (must : Bool) : Bool := if i = -1 then !must else c.child pl i (isB · w)
attribute [local simp] cut spl one fillT
theorem rchild_pure (c : Cod) (pl i w : Int) (must : Bool) (hpl : -1 ≤ pl) (hL : c.L.length ≤ 1000000000) :
    Pure Try.prog 57 [.agg c.enc, i64 pl, i64 i, i64 w, .bool must] (.bool (c.childR pl i w must)) := by
  refine walk_of mo Try.func57 tr57 (rs := [.tmp 10]) (by rfl) (by rfl) ?_
  unfold c57 Cod.childR
  by_cases hi : i = -1
  · simp [Cod.enc, hi]
  · by_cases h1 : pl < i
    · obtain ⟨k, rfl⟩ : ∃ k : Nat, i = k := ⟨i.toNat, by omega⟩
      by_cases h2 : k < c.L.length
      · simp [Cod.enc, Cod.child, h1, h2, hi, Nod.enc, ints]
        refine call_t (ts := [i64 c.L[k].Kind, i64 w]) _ (is_pure c.L[k].Kind w) (by simp) ?_
        simp
      · simp [Cod.enc, Cod.child, h1, h2, hi, List.getElem?_eq_none (show c.L.length ≤ k by omega)]
    · simp [Cod.enc, Cod.child, h1, hi]
theorem rsameI_pure (a b : List Int) (ha : a.length ≤ 140737488355328) : Pure Try.prog 58 [ints a, ints b] (.bool (sameIs a b)) := by
  refine walk_of mo Try.func58 tr58 (rs := [.tmp 4]) (by rfl) (by rfl) ?_
  unfold c58 sameIs
  by_cases hl : a.length = b.length
  · simp [ints, hl]
    refine loop_up b.length (fun i => ⟨[(0, .t (ints a)), (1, .t (ints b)), (5, .t (i64 i))], []⟩) (fun i => ∀ j (h1 : j < a.length) (h2 : j < b.length), j < i → a[j] = b[j]) same ?_ ?_ ?_
    · simp [ints]
    · simp
    · intro i hi hR
      by_cases h : i < b.length
      · have h' : i < a.length := by omega
        by_cases e : a[i] = b[i]
        · simp [ints, hl, h, e]
          rw [wr_id (by omega) (by omega)]
          refine up_next same h ?_ ?_
          · intro j q1 q2 hj
            rcases Nat.lt_succ_iff_lt_or_eq.1 hj with h2 | h2
            · exact hR j (by omega) q2 h2
            · subst h2; exact e
          · simp [ints]
        · have := eqAll_false (fun x y => decide (x = y)) a b i h' h (by simpa using e)
          simp [ints, hl, h, e, this]
      · have := eqAll_true (fun x y => decide (x = y)) a b hl fun j q1 q2 => by simpa using hR j q1 q2 (by omega)
        simp [ints, hl, h, this]
  · have := eqAll_len (fun x y => decide (x = y)) a b hl
    simp [ints, hl, this, Int.ofNat_inj]
theorem rsameF_pure (a b : List Fld) (ha : a.length ≤ 140737488355328) : Pure Try.prog 25 [.lst 2 (a.map Fld.enc), .lst 2 (b.map Fld.enc)] (.bool (sameFs a b)) := by
  refine walk_of mo Try.func25 tr25 (rs := [.tmp 4]) (by rfl) (by rfl) ?_
  unfold c25 sameFs
  by_cases hl : a.length = b.length
  · simp [hl]
    refine loop_up b.length (fun i => ⟨[(0, .t (.lst 2 (a.map Fld.enc))), (1, .t (.lst 2 (b.map Fld.enc))), (5, .t (i64 i))], []⟩) (fun i => ∀ j (h1 : j < a.length) (h2 : j < b.length), j < i → a[j].same b[j] = true) same ?_ ?_ ?_
    · simp
    · simp
    · intro i hi hR
      by_cases h : i < b.length
      · have h' : i < a.length := by omega
        by_cases e1 : a[i].Name = b[i].Name
        · by_cases e2 : a[i].Ty = b[i].Ty
          · simp [hl, h, e1, e2, Fld.enc, eqCells]
            rw [wr_id (by omega) (by omega)]
            refine up_next same h ?_ ?_
            · intro j q1 q2 hj
              rcases Nat.lt_succ_iff_lt_or_eq.1 hj with h2 | h2
              · exact hR j (by omega) q2 h2
              · subst h2; simp [Fld.same, e1, e2]
            · simp
          · have := eqAll_false Fld.same a b i h' h (by simp [Fld.same, e2])
            simp [hl, h, e1, e2, this, Fld.enc, eqCells]
        · have := eqAll_false Fld.same a b i h' h (by simp [Fld.same, e1])
          simp [hl, h, e1, this, Fld.enc, eqCells]
      · have := eqAll_true Fld.same a b hl fun j q1 q2 => hR j (by omega) q2 (by omega)
        simp [hl, h, this]
  · have := eqAll_len Fld.same a b hl
    simp [hl, this, Int.ofNat_inj]
theorem rints_pure (l : List Int) (h : l.length * 8 ≤ 140737488355328) : Pure Try.prog 28 [ints l] (ints l) := by
  refine walk_of mo Try.func28 tr28 (rs := [.tmp 2]) (by rfl) (by rfl) ?_
  unfold c28
  cases l with
  | nil => simp [ints, retR_v]
  | cons a r =>
    simp [ints]
    refine req_intro (by simpa using h) ?_
    simp [retR_v, List.take_of_length_le]
def Nod.kE (n : Nod) (F : List Int) (i : Nat) : List Int := F ++ n.L ++ (n.Cases.take i).map (·.Body)
theorem kE_len (n : Nod) (F : List Int) {i : Nat} (h : i ≤ n.Cases.length) : (n.kE F i).length = F.length + n.L.length + i := by simp [Nod.kE]; omega
theorem kE_succ (n : Nod) (F : List Int) {i : Nat} (h : i < n.Cases.length) : n.kE F (i + 1) = n.kE F i ++ [n.Cases[i].Body] := by
  rw [Nod.kE, take_snoc _ _ h, List.map_append, ← List.append_assoc]; rfl
theorem kE_all (n : Nod) (F : List Int) : n.kE F n.Cases.length = F ++ n.L ++ n.Cases.map (·.Body) := by rw [Nod.kE, List.take_length]
theorem kE_zero (n : Nod) (F : List Int) : n.kE F 0 = F ++ n.L := by simp [Nod.kE]
theorem rkids_pure (n : Nod) (h1 : n.L.length ≤ 1000000000) (h2 : n.Cases.length ≤ 1000000000) : Pure Try.prog 24 [.agg n.enc] (ints n.kids) := by
  refine walk_of mo Try.func24 tr24 (rs := [.tmp 2]) (by rfl) (by rfl) ?_
  unfold c24
  simp [Nod.enc, ints]
  have hX : [[T.int IntKind.i64 n.A], [T.int IntKind.i64 n.B], [T.int IntKind.i64 n.C]] = row [n.A, n.B, n.C] := rfl
  have hk : n.kids = ([n.A, n.B, n.C].filter fun x => !decide (x = -1)) ++ n.L ++ n.Cases.map (·.Body) := rfl
  rw [hX, hk]
  have h3 : [n.A, n.B, n.C].length = 3 := rfl
  generalize [n.A, n.B, n.C] = l at *
  clear hX hk
  refine loop_up 3 (fun i => ⟨[(1, .ptr 1 0 0), (3, .slc 107 1 0 ((l.take i).filter fun x => !decide (x = -1)).length), (4, .t (ints l)), (5, .t (i64 i))], [(107, .row 3 1 (row ((l.take i).filter fun x => !decide (x = -1)))), (1, .box (n.enc.map .t))]⟩) (fun _ => True) (to 107 7) ?_ trivial ?_
  · simp [row, Nod.enc, ints, to, h3, List.take_of_length_le]
    exact fun n hn e => by have : far = 1000 := rfl; omega
  · intro i hi _
    by_cases hl : i < 3
    · have hl' : i < l.length := by omega
      have ht := take_snoc l i hl'
      have hfl : ((l.take i).filter fun x => !decide (x = -1)).length ≤ 3 := Nat.le_trans (List.length_filter_le _ _) (by simp; omega)
      have hlI : (i : Int) < 3 := by omega
      by_cases e : l[i] = -1
      · have hn : ((l.take (i + 1)).filter fun x => !decide (x = -1)) = ((l.take i).filter fun x => !decide (x = -1)) := by rw [ht, List.filter_append]; simp [e]
        generalize ((l.take i).filter fun x => !decide (x = -1)) = F at *
        simp [ints, hlI, hl', e]
        rw [wr_id (by omega) (by omega)]
        refine up_next same hl trivial ?_
        simp [ints, hn]
      · have hn : ((l.take (i + 1)).filter fun x => !decide (x = -1)) = ((l.take i).filter fun x => !decide (x = -1)) ++ [l[i]] := by rw [ht, List.filter_append]; simp [e]
        generalize ((l.take i).filter fun x => !decide (x = -1)) = F at *
        simp [ints, hlI, hl', e, row]
        refine req_intro (by omega) ?_
        simp
        rw [wr_id (by omega) (by omega)]
        refine up_next (to 107 30) hl trivial ?_
        simp [ints, hn, to, row, List.take_of_length_le]
        exact fun n hn e => by have : far = 1000 := rfl; omega
    · have : i = 3 := by omega
      subst this
      rw [List.take_of_length_le (by omega)]
      have hfl : (l.filter fun x => !decide (x = -1)).length ≤ 3 := Nat.le_trans (List.length_filter_le _ _) (by omega)
      generalize (l.filter fun x => !decide (x = -1)) = F at *
      simp [Nod.enc, ints, row]
      refine req_intro (by omega) ?_
      simp
      refine loop_up n.Cases.length (fun i => ⟨[(1, .ptr 1 0 0), (3, .slc 134 1 0 (F.length + n.L.length + i)), (6, .t (i64 i))], [(134, .row 3 1 (row (n.kE F i))), (1, .box (n.enc.map .t))]⟩) (fun _ => True) (to 134 34) ?_ trivial ?_
      · simp [row, Nod.enc, ints, to, List.take_of_length_le, kE_zero]
        exact fun n hn e => by have : far = 1000 := rfl; omega
      · intro i hi _
        by_cases hl : i < n.Cases.length
        · have hgl := kE_len n F hi
          have hn := kE_succ n F hl
          have hal : F.length + n.L.length + (i + 1) = F.length + n.L.length + i + 1 := by omega
          generalize n.kE F i = G at *
          simp [ints, hl, Nod.enc, Cas.enc, row, hgl]
          refine req_intro (by omega) ?_
          simp
          rw [wr_id (by omega) (by omega)]
          refine up_next (to 134 50) hl trivial ?_
          simp [ints, hn, to, row, List.take_of_length_le, hgl, hal]
          exact fun n hn e => by have : far = 1000 := rfl; omega
        · have : i = n.Cases.length := by omega
          subst this
          have hgl := kE_len n F (Nat.le_refl _)
          simp [Nod.enc]
          refine retR_of (y := .lst 1 (row (n.kE F n.Cases.length))) (by simp [row, hgl, List.take_of_length_le]) ?_
          rw [kE_all]
          simp [row]
theorem rsameN_pure (a b : Nod) (h1 : a.L.length ≤ 140737488355328) (h2 : a.Cases.length ≤ 140737488355328) (h3 : ∀ x ∈ a.Cases, x.L.length ≤ 140737488355328) : Pure Try.prog 26 [.agg a.enc, .agg b.enc] (.bool (a.same b)) := by
  refine walk_of mo Try.func26 tr26 (rs := [.tmp 4]) (by rfl) (by rfl) ?_
  unfold c26 Nod.same
  by_cases e1 : a.Kind = b.Kind
  · by_cases e2 : a.N = b.N
    · by_cases e3 : a.Name = b.Name
      · by_cases e4 : a.A = b.A
        · by_cases e5 : a.B = b.B
          · by_cases e6 : a.C = b.C
            · simp [Nod.enc, ints, e1, e2, e3, e4, e5, e6]
              refine call_t (ts := [ints a.L, ints b.L]) _ (rsameI_pure a.L b.L h1) (by simp) ?_
              cases hs : sameIs a.L b.L with
              | false => simp
              | true =>
                simp
                by_cases hl : a.Cases.length = b.Cases.length
                · simp [hl]
                  refine loop_up b.Cases.length (fun i => ⟨[(2, .ptr 2 0 0), (3, .ptr 3 0 0), (5, .t (i64 i))], [(2, .box (a.enc.map .t)), (3, .box (b.enc.map .t))]⟩) (fun i => ∀ j (h1 : j < a.Cases.length) (h2 : j < b.Cases.length), j < i → a.Cases[j].same b.Cases[j] = true) same ?_ ?_ ?_
                  · simp [Nod.enc, ints, e1, e2, e3, e4, e5, e6]
                  · simp
                  · intro i hi hR
                    by_cases h : i < b.Cases.length
                    · have h' : i < a.Cases.length := by omega
                      by_cases q1 : a.Cases[i].Body = b.Cases[i].Body
                      · simp [Nod.enc, ints, hl, h, h', q1, Cas.enc]
                        refine callD_intro (ts := [ints a.Cases[i].L, ints b.Cases[i].L]) (by simp [ints]) _ (rsameI_pure a.Cases[i].L b.Cases[i].L (h3 _ (List.getElem_mem h'))) (.inl (by rfl)) ?_
                        cases hs2 : sameIs a.Cases[i].L b.Cases[i].L with
                        | true =>
                          simp
                          rw [wr_id (by omega) (by omega)]
                          refine up_next same h ?_ ?_
                          · intro j q2 q3 hj
                            rcases Nat.lt_succ_iff_lt_or_eq.1 hj with h2 | h2
                            · exact hR j (by omega) q3 h2
                            · subst h2; simp [Cas.same, q1, hs2]
                          · simp [Nod.enc, ints]
                        | false =>
                          have := eqAll_false Cas.same a.Cases b.Cases i h' h (by simp [Cas.same, hs2])
                          simp [this]
                      · have := eqAll_false Cas.same a.Cases b.Cases i h' h (by simp [Cas.same, q1])
                        simp [Nod.enc, ints, hl, h, h', q1, Cas.enc, this]
                    · have := eqAll_true Cas.same a.Cases b.Cases hl fun j q1 q2 => hR j (by omega) q2 (by omega)
                      simp [Nod.enc, ints, hl, h, this]
                · have := eqAll_len Cas.same a.Cases b.Cases hl
                  simp [hl, this, Int.ofNat_inj]
            · simp [Nod.enc, ints, e1, e2, e3, e4, e5, e6]
          · simp [Nod.enc, ints, e1, e2, e3, e4, e5]
        · simp [Nod.enc, ints, e1, e2, e3, e4]
      · simp [Nod.enc, ints, e1, e2, e3]
    · simp [Nod.enc, ints, e1, e2]
  · simp [Nod.enc, ints, e1]
theorem rsameC_pure (a b : Cod) (hs : a.Structs.length ≤ 1000000000) (hs2 : ∀ s ∈ a.Structs, s.L.length ≤ 140737488355328) (hf : a.Funcs.length ≤ 1000000000) (hf2 : ∀ s ∈ a.Funcs, s.Params.length ≤ 140737488355328) (hL : a.L.length ≤ 1000000000)
    (hL2 : ∀ n ∈ a.L, n.L.length ≤ 140737488355328 ∧ n.Cases.length ≤ 140737488355328 ∧ ∀ x ∈ n.Cases, x.L.length ≤ 140737488355328) : Pure Try.prog 10 [.agg a.enc, .agg b.enc] (.bool (a.same b)) := by
  refine walk_of mo Try.func10 tr10 (rs := [.tmp 4]) (by rfl) (by rfl) ?_
  unfold c10
  by_cases e0 : a.Name = b.Name
  · by_cases e1 : a.Structs.length = b.Structs.length
    · by_cases e2 : a.Funcs.length = b.Funcs.length
      · by_cases e3 : a.L.length = b.L.length
        · simp [Cod.enc, e0, e1, e2, e3]
          refine loop_up b.Structs.length (fun i => ⟨[(2, .ptr 2 0 0), (3, .ptr 3 0 0), (5, .t (i64 i))], [(2, .box (a.enc.map .t)), (3, .box (b.enc.map .t))]⟩) (fun i => ∀ j (h1 : j < a.Structs.length) (h2 : j < b.Structs.length), j < i → a.Structs[j].same b.Structs[j] = true) same ?_ ?_ ?_
          · simp [Cod.enc, e0]
          · simp
          · intro i hi hR
            by_cases h : i < b.Structs.length
            · have h' : i < a.Structs.length := by omega
              have fin : a.Structs[i].same b.Structs[i] = false → a.same b = false := fun h1 => by rw [Cod.same, eqAll_false Str.same a.Structs b.Structs i h' h h1]; simp
              by_cases q1 : a.Structs[i].Name = b.Structs[i].Name
              · simp [Cod.enc, h, h', q1, Str.enc, e1]
                refine callD_intro (ts := [.lst 2 (a.Structs[i].L.map Fld.enc), .lst 2 (b.Structs[i].L.map Fld.enc)]) (by simp) _ (rsameF_pure a.Structs[i].L b.Structs[i].L (hs2 _ (List.getElem_mem h'))) (.inl (by rfl)) ?_
                cases hq : sameFs a.Structs[i].L b.Structs[i].L with
                | true =>
                  simp
                  rw [wr_id (by omega) (by omega)]
                  refine up_next same h ?_ ?_
                  · intro j q2 q3 hj
                    rcases Nat.lt_succ_iff_lt_or_eq.1 hj with h2 | h2
                    · exact hR j (by omega) q3 h2
                    · subst h2; simp [Str.same, q1, hq]
                  · simp [Cod.enc]
                | false => simp [fin (by simp [Str.same, hq])]
              · simp [Cod.enc, h, h', q1, Str.enc, e1, fin (by simp [Str.same, q1])]
            · have g1 := eqAll_true Str.same a.Structs b.Structs e1 fun j q1 q2 => hR j (by omega) q2 (by omega)
              simp [Cod.enc, h, e1]
              refine loop_up b.Funcs.length (fun i => ⟨[(2, .ptr 2 0 0), (3, .ptr 3 0 0), (6, .t (i64 i))], [(2, .box (a.enc.map .t)), (3, .box (b.enc.map .t))]⟩) (fun i => ∀ j (h1 : j < a.Funcs.length) (h2 : j < b.Funcs.length), j < i → a.Funcs[j].same b.Funcs[j] = true) same ?_ ?_ ?_
              · simp [Cod.enc]
              · simp
              · intro i hi hR
                by_cases h : i < b.Funcs.length
                · have h' : i < a.Funcs.length := by omega
                  have fin : a.Funcs[i].same b.Funcs[i] = false → a.same b = false := fun h1 => by rw [Cod.same, eqAll_false Fun.same a.Funcs b.Funcs i h' h h1]; simp
                  by_cases q1 : a.Funcs[i].Name = b.Funcs[i].Name
                  · by_cases q2 : a.Funcs[i].Result = b.Funcs[i].Result
                    · by_cases q3 : a.Funcs[i].Body = b.Funcs[i].Body
                      · simp [Cod.enc, h, h', q1, q2, q3, Fun.enc, e2]
                        refine call_t (ts := [.lst 2 (a.Funcs[i].Params.map Fld.enc), .lst 2 (b.Funcs[i].Params.map Fld.enc)]) _ (rsameF_pure a.Funcs[i].Params b.Funcs[i].Params (hf2 _ (List.getElem_mem h'))) (by simp) ?_
                        cases hq : sameFs a.Funcs[i].Params b.Funcs[i].Params with
                        | true =>
                          simp
                          rw [wr_id (by omega) (by omega)]
                          refine up_next same h ?_ ?_
                          · intro j q5 q6 hj
                            rcases Nat.lt_succ_iff_lt_or_eq.1 hj with h2 | h2
                            · exact hR j (by omega) q6 h2
                            · subst h2; simp [Fun.same, q1, q2, q3, hq]
                          · simp [Cod.enc]
                        | false => simp [fin (by simp [Fun.same, hq])]
                      · simp [Cod.enc, h, h', q1, q2, q3, Fun.enc, e2, fin (by simp [Fun.same, q3])]
                    · simp [Cod.enc, h, h', q1, q2, Fun.enc, e2, fin (by simp [Fun.same, q2])]
                  · simp [Cod.enc, h, h', q1, Fun.enc, e2, fin (by simp [Fun.same, q1])]
                · have g2 := eqAll_true Fun.same a.Funcs b.Funcs e2 fun j q1 q2 => hR j (by omega) q2 (by omega)
                  simp [Cod.enc, h, e2]
                  refine loop_up b.L.length (fun i => ⟨[(2, .ptr 2 0 0), (3, .ptr 3 0 0), (9, .t (i64 i))], [(2, .box (a.enc.map .t)), (3, .box (b.enc.map .t))]⟩) (fun i => ∀ j (h1 : j < a.L.length) (h2 : j < b.L.length), j < i → a.L[j].same b.L[j] = true) same ?_ ?_ ?_
                  · simp [Cod.enc]
                  · simp
                  · intro i hi hR
                    by_cases h : i < b.L.length
                    · have h' : i < a.L.length := by omega
                      have fin : a.L[i].same b.L[i] = false → a.same b = false := fun h1 => by rw [Cod.same, eqAll_false Nod.same a.L b.L i h' h h1]; simp
                      obtain ⟨o1, o2, o3⟩ := hL2 _ (List.getElem_mem h')
                      simp [Cod.enc, h, h', Nod.enc, e3, ints]
                      refine callD_intro (ts := [.agg a.L[i].enc, .agg b.L[i].enc]) (by simp [Nod.enc, ints]) _ (rsameN_pure a.L[i] b.L[i] o1 o2 o3) (.inl (by rfl)) ?_
                      cases hq : a.L[i].same b.L[i] with
                      | true =>
                        simp
                        rw [wr_id (by omega) (by omega)]
                        refine up_next same h ?_ ?_
                        · intro j q2 q3 hj
                          rcases Nat.lt_succ_iff_lt_or_eq.1 hj with h2 | h2
                          · exact hR j (by omega) q3 h2
                          · subst h2; exact hq
                        · simp [Cod.enc]
                      | false => simp [fin hq]
                    · have g3 := eqAll_true Nod.same a.L b.L e3 fun j q1 q2 => hR j (by omega) q2 (by omega)
                      simp [Cod.enc, h, e3, Cod.same, e0, g1, g2, g3]
        · have := eqAll_len Nod.same a.L b.L e3
          simp [Cod.enc, e0, e1, e2, e3, Int.ofNat_inj, Cod.same, this]
      · have := eqAll_len Fun.same a.Funcs b.Funcs e2
        simp [Cod.enc, e0, e1, e2, Int.ofNat_inj, Cod.same, this]
    · have := eqAll_len Str.same a.Structs b.Structs e1
      simp [Cod.enc, e0, e1, Int.ofNat_inj, Cod.same, this]
  · simp [Cod.enc, e0, Cod.same]

end Go.Eng
