/- What the program's functions 29,30,31,32,33,34,35,37,38,59,60,61,63,12 compute (numbers of this seat): contracts, walked by the engine. -/
import Derived.Test.YthcogpecnmhhlaaEngU
import Derived.Test.YthcogpecnmhhlaaCodQ
import Derived.Test.YthcogpecnmhhlaaProg
namespace Go.Eng
open Go Go.Proofs
set_option maxRecDepth 100000
set_option linter.all false
def c12 : Cd := (.seq (.reg [o1 2 (.box true 4 (.t 0)), o1 3 (.box true 4 (.t 1)), o1 4 (.mv (.c (.bool false)))] false) (.seq (.reg [o1 10 (.ld true 4 (.t 2)), o1 11 (.call 8 [(.t 10)]), o1 9 (.mv (.t 11)), o1 12 (.ext 0 (.t 9)), o1 13 (.ext 1 (.t 9)), o1 5 (.new [.str ByteArray.empty, .nils, .nils, .nils]), o0 (.st 4 (.t 5) (.t 12)), o1 6 (.mv (.t 13))] false) (.seq (.reg [o1 15 (.ld true 4 (.t 3)), o1 16 (.call 8 [(.t 15)]), o1 14 (.mv (.t 16)), o1 17 (.ext 0 (.t 14)), o1 18 (.ext 1 (.t 14)), o1 7 (.new [.str ByteArray.empty, .nils, .nils, .nils]), o0 (.st 4 (.t 7) (.t 17)), o1 8 (.mv (.t 18))] false) (.seq (.seq (.reg [o1 19 (.mv (.t 6)), o1 20 (.bin .neq (.t 19) (cI 0)), o1 21 (.mv (.t 20)), og 22 21 false (.mv (.t 8)), og 23 21 false (.bin .neq (.t 22) (cI 0)), o1 24 (.pick (.t 21) (.c (.bool true)) (.t 23)), o1 25 (.mv (.t 24)), og 26 25 false (.fa 0 (.t 5)), og 27 25 false (.ld false 1 (.t 26)), og 28 25 false (.fa 0 (.t 7)), og 29 25 false (.ld false 1 (.t 28)), og 30 25 false (.bin .neq (.t 27) (.t 29)), o1 31 (.pick (.t 25) (.c (.bool true)) (.t 30))] false) (.cond (.t 31) (.seq (.reg [o1 4 (.mv (.c (.bool false)))] false) .ret) .skip)) (.seq (.reg [o1 32 (.fa 1 (.t 5)), o1 33 (.ld false 1 (.t 32)), o1 34 (.fa 1 (.t 7)), o1 35 (.ld false 1 (.t 34)), o1 36 (.call 29 [(.t 33), (.t 35), (.c (.fn 30 []))]), o1 37 (.mv (.t 36)), og 38 37 true (.fa 2 (.t 5)), og 39 37 true (.ld false 1 (.t 38)), og 40 37 true (.fa 2 (.t 7)), og 41 37 true (.ld false 1 (.t 40)), og 42 37 true (.call 32 [(.t 39), (.t 41), (.c (.fn 33 []))]), o1 43 (.pick (.t 37) (.t 42) (.c (.bool false))), o1 44 (.mv (.t 43)), og 45 44 true (.fa 3 (.t 5)), og 46 44 true (.ld false 1 (.t 45)), og 47 44 true (.fa 3 (.t 7)), og 48 44 true (.ld false 1 (.t 47)), og 49 44 true (.call 34 [(.t 46), (.t 48), (.c (.fn 35 []))]), o1 50 (.pick (.t 44) (.t 49) (.c (.bool false))), o1 4 (.mv (.t 50))] false) .ret)))))
theorem tr12 : tr Try.prog (Try.f12.body.getD .skip) = some c12 := by kernel_rfl
def c29 : Cd := (.seq (.reg [o1 6 (.mv (.c (.bool false)))] false) (.seq (.seq (.reg [o1 10 (.mv (.t 0)), o1 11 (.len (.t 10)), o1 12 (.mv (.t 1)), o1 13 (.len (.t 12)), o1 14 (.bin .neq (.t 11) (.t 13))] false) (.cond (.t 14) (.seq (.reg [o1 6 (.mv (.c (.bool false)))] false) .ret) .skip)) (.seq (.seq (.reg [o1 15 (.mv (.t 0)), o1 16 (.len (.t 15)), o1 17 (.mv (cI 0))] false) (.blk 0 (.loop (.seq (.reg [o1 18 (.bin .lss (.t 17) (.t 16))] false) (.seq (.cond (.t 18) .skip (.exit 0)) (.seq (.blk 1 (.seq (.reg [o1 19 (.mv (.t 17)), o1 20 (.ia 2 (.t 15) (.t 17)), o1 21 (.ld true 2 (.t 20)), o1 8 (.new [.str ByteArray.empty, .nils]), o1 7 (.mv (.t 19)), o0 (.st 2 (.t 8) (.t 21))] false) (.seq (.reg [o1 22 (.mv (.t 1)), o1 23 (.mv (.t 7)), o1 24 (.ia 2 (.t 22) (.t 23)), o1 25 (.ld true 2 (.t 24)), o1 9 (.new [.str ByteArray.empty, .nils]), o0 (.st 2 (.t 9) (.t 25))] false) (.seq (.reg [o1 26 (.mv (.t 2)), o1 27 (.ld true 2 (.t 8)), o1 28 (.ld true 2 (.t 9)), o1 29 (.callv (.t 26) [(.t 27), (.t 28)]), o1 30 (.not (.t 29))] false) (.cond (.t 30) (.seq (.reg [o1 6 (.mv (.c (.bool false)))] false) .ret) .skip))))) (.reg [o1 31 (.bin .add (.t 17) (cI 1)), o1 17 (.mv (.t 31))] false))))))) (.seq (.reg [o1 6 (.mv (.c (.bool true)))] false) .ret))))
theorem tr29 : tr Try.prog (Try.f29.body.getD .skip) = some c29 := by kernel_rfl
def c30 : Cd := (.seq (.reg [o1 2 (.box true 2 (.t 0)), o1 3 (.box true 2 (.t 1)), o1 4 (.mv (.c (.bool false)))] false) (.seq (.reg [o1 5 (.fa 0 (.t 2)), o1 6 (.ld false 1 (.t 5)), o1 7 (.fa 0 (.t 3)), o1 8 (.ld false 1 (.t 7)), o1 9 (.bin .eql (.t 6) (.t 8)), o1 10 (.mv (.t 9)), og 11 10 true (.fa 1 (.t 2)), og 12 10 true (.ld false 1 (.t 11)), og 13 10 true (.fa 1 (.t 3)), og 14 10 true (.ld false 1 (.t 13)), og 15 10 true (.call 31 [(.t 12), (.t 14)]), o1 16 (.pick (.t 10) (.t 15) (.c (.bool false))), o1 4 (.mv (.t 16))] false) .ret))
theorem tr30 : tr Try.prog (Try.f30.body.getD .skip) = some c30 := by kernel_rfl
def c31 : Cd := (.seq (.reg [o1 4 (.mv (.c (.bool false)))] false) (.seq (.seq (.reg [o1 6 (.mv (.t 0)), o1 7 (.len (.t 6)), o1 8 (.mv (.t 1)), o1 9 (.len (.t 8)), o1 10 (.bin .neq (.t 7) (.t 9))] false) (.cond (.t 10) (.seq (.reg [o1 4 (.mv (.c (.bool false)))] false) .ret) .skip)) (.seq (.seq (.reg [o1 11 (.mv (.t 0)), o1 12 (.len (.t 11)), o1 13 (.mv (cI 0))] false) (.blk 0 (.loop (.seq (.reg [o1 14 (.bin .lss (.t 13) (.t 12))] false) (.seq (.cond (.t 14) .skip (.exit 0)) (.seq (.blk 1 (.seq (.reg [o1 15 (.mv (.t 13)), o1 5 (.mv (.t 15))] false) (.seq (.reg [oa 16 [] (.mv (.t 0)), oa 17 [] (.mv (.t 5)), oa 18 [0, 1] (.ia 2 (.t 16) (.t 17)), oa 19 [2] (.ld true 2 (.t 18)), oa 20 [] (.mv (.t 1)), oa 21 [] (.mv (.t 5)), oa 22 [4, 5] (.ia 2 (.t 20) (.t 21)), oa 23 [6] (.ld true 2 (.t 22)), oa 24 [3, 7] (.eqs true [2, 2] (.t 19) (.t 23))] true) (.cond (.t 24) (.seq (.reg [o1 4 (.mv (.c (.bool false)))] false) .ret) .skip)))) (.reg [o1 25 (.bin .add (.t 13) (cI 1)), o1 13 (.mv (.t 25))] false))))))) (.seq (.reg [o1 4 (.mv (.c (.bool true)))] false) .ret))))
theorem tr31 : tr Try.prog (Try.f31.body.getD .skip) = some c31 := by kernel_rfl
def c32 : Cd := (.seq (.reg [o1 6 (.mv (.c (.bool false)))] false) (.seq (.seq (.reg [o1 10 (.mv (.t 0)), o1 11 (.len (.t 10)), o1 12 (.mv (.t 1)), o1 13 (.len (.t 12)), o1 14 (.bin .neq (.t 11) (.t 13))] false) (.cond (.t 14) (.seq (.reg [o1 6 (.mv (.c (.bool false)))] false) .ret) .skip)) (.seq (.seq (.reg [o1 15 (.mv (.t 0)), o1 16 (.len (.t 15)), o1 17 (.mv (cI 0))] false) (.blk 0 (.loop (.seq (.reg [o1 18 (.bin .lss (.t 17) (.t 16))] false) (.seq (.cond (.t 18) .skip (.exit 0)) (.seq (.blk 1 (.seq (.reg [o1 19 (.mv (.t 17)), o1 20 (.ia 4 (.t 15) (.t 17)), o1 21 (.ld true 4 (.t 20)), o1 8 (.new [.str ByteArray.empty, .nils, .str ByteArray.empty, .int .i64 0]), o1 7 (.mv (.t 19)), o0 (.st 4 (.t 8) (.t 21))] false) (.seq (.reg [o1 22 (.mv (.t 1)), o1 23 (.mv (.t 7)), o1 24 (.ia 4 (.t 22) (.t 23)), o1 25 (.ld true 4 (.t 24)), o1 9 (.new [.str ByteArray.empty, .nils, .str ByteArray.empty, .int .i64 0]), o0 (.st 4 (.t 9) (.t 25))] false) (.seq (.reg [o1 26 (.mv (.t 2)), o1 27 (.ld true 4 (.t 8)), o1 28 (.ld true 4 (.t 9)), o1 29 (.callv (.t 26) [(.t 27), (.t 28)]), o1 30 (.not (.t 29))] false) (.cond (.t 30) (.seq (.reg [o1 6 (.mv (.c (.bool false)))] false) .ret) .skip))))) (.reg [o1 31 (.bin .add (.t 17) (cI 1)), o1 17 (.mv (.t 31))] false))))))) (.seq (.reg [o1 6 (.mv (.c (.bool true)))] false) .ret))))
theorem tr32 : tr Try.prog (Try.f32.body.getD .skip) = some c32 := by kernel_rfl
def c33 : Cd := (.seq (.reg [o1 2 (.box true 4 (.t 0)), o1 3 (.box true 4 (.t 1)), o1 4 (.mv (.c (.bool false)))] false) (.seq (.reg [o1 5 (.fa 0 (.t 2)), o1 6 (.ld false 1 (.t 5)), o1 7 (.fa 0 (.t 3)), o1 8 (.ld false 1 (.t 7)), o1 9 (.bin .eql (.t 6) (.t 8)), o1 10 (.mv (.t 9)), og 11 10 true (.fa 2 (.t 2)), og 12 10 true (.ld false 1 (.t 11)), og 13 10 true (.fa 2 (.t 3)), og 14 10 true (.ld false 1 (.t 13)), og 15 10 true (.bin .eql (.t 12) (.t 14)), o1 16 (.pick (.t 10) (.t 15) (.c (.bool false))), o1 17 (.mv (.t 16)), og 18 17 true (.fa 3 (.t 2)), og 19 17 true (.ld false 1 (.t 18)), og 20 17 true (.fa 3 (.t 3)), og 21 17 true (.ld false 1 (.t 20)), og 22 17 true (.bin .eql (.t 19) (.t 21)), o1 23 (.pick (.t 17) (.t 22) (.c (.bool false))), o1 24 (.mv (.t 23)), og 25 24 true (.fa 1 (.t 2)), og 26 24 true (.ld false 1 (.t 25)), og 27 24 true (.fa 1 (.t 3)), og 28 24 true (.ld false 1 (.t 27)), og 29 24 true (.call 31 [(.t 26), (.t 28)]), o1 30 (.pick (.t 24) (.t 29) (.c (.bool false))), o1 4 (.mv (.t 30))] false) .ret))
theorem tr33 : tr Try.prog (Try.f33.body.getD .skip) = some c33 := by kernel_rfl
def c34 : Cd := (.seq (.reg [o1 6 (.mv (.c (.bool false)))] false) (.seq (.seq (.reg [o1 10 (.mv (.t 0)), o1 11 (.len (.t 10)), o1 12 (.mv (.t 1)), o1 13 (.len (.t 12)), o1 14 (.bin .neq (.t 11) (.t 13))] false) (.cond (.t 14) (.seq (.reg [o1 6 (.mv (.c (.bool false)))] false) .ret) .skip)) (.seq (.seq (.reg [o1 15 (.mv (.t 0)), o1 16 (.len (.t 15)), o1 17 (.mv (cI 0))] false) (.blk 0 (.loop (.seq (.reg [o1 18 (.bin .lss (.t 17) (.t 16))] false) (.seq (.cond (.t 18) .skip (.exit 0)) (.seq (.blk 1 (.seq (.reg [o1 19 (.mv (.t 17)), o1 20 (.ia 8 (.t 15) (.t 17)), o1 21 (.ld true 8 (.t 20)), o1 8 (.new [.int .i64 0, .int .i64 0, .str ByteArray.empty, .int .i64 0, .int .i64 0, .int .i64 0, .nils, .nils]), o1 7 (.mv (.t 19)), o0 (.st 8 (.t 8) (.t 21))] false) (.seq (.reg [o1 22 (.mv (.t 1)), o1 23 (.mv (.t 7)), o1 24 (.ia 8 (.t 22) (.t 23)), o1 25 (.ld true 8 (.t 24)), o1 9 (.new [.int .i64 0, .int .i64 0, .str ByteArray.empty, .int .i64 0, .int .i64 0, .int .i64 0, .nils, .nils]), o0 (.st 8 (.t 9) (.t 25))] false) (.seq (.reg [o1 26 (.mv (.t 2)), o1 27 (.ld true 8 (.t 8)), o1 28 (.ld true 8 (.t 9)), o1 29 (.callv (.t 26) [(.t 27), (.t 28)]), o1 30 (.not (.t 29))] false) (.cond (.t 30) (.seq (.reg [o1 6 (.mv (.c (.bool false)))] false) .ret) .skip))))) (.reg [o1 31 (.bin .add (.t 17) (cI 1)), o1 17 (.mv (.t 31))] false))))))) (.seq (.reg [o1 6 (.mv (.c (.bool true)))] false) .ret))))
theorem tr34 : tr Try.prog (Try.f34.body.getD .skip) = some c34 := by kernel_rfl
def c35 : Cd := (.seq (.reg [o1 2 (.box true 8 (.t 0)), o1 3 (.box true 8 (.t 1)), o1 4 (.mv (.c (.bool false)))] false) (.seq (.reg [o1 5 (.fa 0 (.t 2)), o1 6 (.ld false 1 (.t 5)), o1 7 (.fa 0 (.t 3)), o1 8 (.ld false 1 (.t 7)), o1 9 (.bin .eql (.t 6) (.t 8)), o1 10 (.mv (.t 9)), og 11 10 true (.fa 1 (.t 2)), og 12 10 true (.ld false 1 (.t 11)), og 13 10 true (.fa 1 (.t 3)), og 14 10 true (.ld false 1 (.t 13)), og 15 10 true (.bin .eql (.t 12) (.t 14)), o1 16 (.pick (.t 10) (.t 15) (.c (.bool false))), o1 17 (.mv (.t 16)), og 18 17 true (.fa 2 (.t 2)), og 19 17 true (.ld false 1 (.t 18)), og 20 17 true (.fa 2 (.t 3)), og 21 17 true (.ld false 1 (.t 20)), og 22 17 true (.bin .eql (.t 19) (.t 21)), o1 23 (.pick (.t 17) (.t 22) (.c (.bool false))), o1 24 (.mv (.t 23)), og 25 24 true (.fa 3 (.t 2)), og 26 24 true (.ld false 1 (.t 25)), og 27 24 true (.fa 3 (.t 3)), og 28 24 true (.ld false 1 (.t 27)), og 29 24 true (.bin .eql (.t 26) (.t 28)), o1 30 (.pick (.t 24) (.t 29) (.c (.bool false))), o1 31 (.mv (.t 30)), og 32 31 true (.fa 4 (.t 2)), og 33 31 true (.ld false 1 (.t 32)), og 34 31 true (.fa 4 (.t 3)), og 35 31 true (.ld false 1 (.t 34)), og 36 31 true (.bin .eql (.t 33) (.t 35)), o1 37 (.pick (.t 31) (.t 36) (.c (.bool false))), o1 38 (.mv (.t 37)), og 39 38 true (.fa 5 (.t 2)), og 40 38 true (.ld false 1 (.t 39)), og 41 38 true (.fa 5 (.t 3)), og 42 38 true (.ld false 1 (.t 41)), og 43 38 true (.bin .eql (.t 40) (.t 42)), o1 44 (.pick (.t 38) (.t 43) (.c (.bool false))), o1 45 (.mv (.t 44)), og 46 45 true (.fa 6 (.t 2)), og 47 45 true (.ld false 1 (.t 46)), og 48 45 true (.fa 6 (.t 3)), og 49 45 true (.ld false 1 (.t 48)), og 50 45 true (.call 59 [(.t 47), (.t 49)]), o1 51 (.pick (.t 45) (.t 50) (.c (.bool false))), o1 52 (.mv (.t 51)), og 53 52 true (.fa 7 (.t 2)), og 54 52 true (.ld false 1 (.t 53)), og 55 52 true (.fa 7 (.t 3)), og 56 52 true (.ld false 1 (.t 55)), og 57 52 true (.call 60 [(.t 54), (.t 56), (.c (.fn 61 []))]), o1 58 (.pick (.t 52) (.t 57) (.c (.bool false))), o1 4 (.mv (.t 58))] false) .ret))
theorem tr35 : tr Try.prog (Try.f35.body.getD .skip) = some c35 := by kernel_rfl
def c37 : Cd := (.seq (.reg [o1 2 (.box true 4 (.t 0)), o1 3 (.box false 1 (.t 1)), o1 4 (.mv (cI 0))] false) (.seq (.reg [o1 5 (.fa 2 (.t 2)), o1 6 (.ld false 1 (.t 5)), o1 7 (.mkf 63 [(.t 3)]), o1 8 (.call 62 [(.t 6), (.t 7)]), o1 4 (.mv (.t 8))] false) .ret))
theorem tr37 : tr Try.prog (Try.f37.body.getD .skip) = some c37 := by kernel_rfl
def c38 : Cd := (.seq (.reg [o1 2 (.new [.int .i64 0, .int .i64 0, .str ByteArray.empty, .int .i64 0, .int .i64 0, .int .i64 0, .nils, .nils])] false) (.seq (.reg [o1 3 (.mv (.t 0)), o1 4 (.bld [.int .i64 0, .int .i64 0, .str ByteArray.empty, .int .i64 0, .int .i64 0, .int .i64 0, .nils, .nils] [(0, 1, (.t 3)), (3, 1, (cI (-1))), (4, 1, (cI (-1))), (5, 1, (cI (-1)))]), o0 (.st 8 (.t 2) (.t 4))] false) .ret))
theorem tr38 : tr Try.prog (Try.f38.body.getD .skip) = some c38 := by kernel_rfl
def c59 : Cd := (.seq (.reg [o1 4 (.mv (.c (.bool false)))] false) (.seq (.seq (.reg [o1 6 (.mv (.t 0)), o1 7 (.len (.t 6)), o1 8 (.mv (.t 1)), o1 9 (.len (.t 8)), o1 10 (.bin .neq (.t 7) (.t 9))] false) (.cond (.t 10) (.seq (.reg [o1 4 (.mv (.c (.bool false)))] false) .ret) .skip)) (.seq (.seq (.reg [o1 11 (.mv (.t 0)), o1 12 (.len (.t 11)), o1 13 (.mv (cI 0))] false) (.blk 0 (.loop (.seq (.reg [o1 14 (.bin .lss (.t 13) (.t 12))] false) (.seq (.cond (.t 14) .skip (.exit 0)) (.seq (.blk 1 (.seq (.reg [o1 15 (.mv (.t 13)), o1 5 (.mv (.t 15))] false) (.seq (.reg [oa 16 [] (.mv (.t 0)), oa 17 [] (.mv (.t 5)), oa 18 [0, 1] (.ia 1 (.t 16) (.t 17)), oa 19 [2] (.ld false 1 (.t 18)), oa 20 [] (.mv (.t 1)), oa 21 [] (.mv (.t 5)), oa 22 [4, 5] (.ia 1 (.t 20) (.t 21)), oa 23 [6] (.ld false 1 (.t 22)), oa 24 [3, 7] (.bin .neq (.t 19) (.t 23))] true) (.cond (.t 24) (.seq (.reg [o1 4 (.mv (.c (.bool false)))] false) .ret) .skip)))) (.reg [o1 25 (.bin .add (.t 13) (cI 1)), o1 13 (.mv (.t 25))] false))))))) (.seq (.reg [o1 4 (.mv (.c (.bool true)))] false) .ret))))
theorem tr59 : tr Try.prog (Try.f59.body.getD .skip) = some c59 := by kernel_rfl
def c60 : Cd := (.seq (.reg [o1 6 (.mv (.c (.bool false)))] false) (.seq (.seq (.reg [o1 10 (.mv (.t 0)), o1 11 (.len (.t 10)), o1 12 (.mv (.t 1)), o1 13 (.len (.t 12)), o1 14 (.bin .neq (.t 11) (.t 13))] false) (.cond (.t 14) (.seq (.reg [o1 6 (.mv (.c (.bool false)))] false) .ret) .skip)) (.seq (.seq (.reg [o1 15 (.mv (.t 0)), o1 16 (.len (.t 15)), o1 17 (.mv (cI 0))] false) (.blk 0 (.loop (.seq (.reg [o1 18 (.bin .lss (.t 17) (.t 16))] false) (.seq (.cond (.t 18) .skip (.exit 0)) (.seq (.blk 1 (.seq (.reg [o1 19 (.mv (.t 17)), o1 20 (.ia 2 (.t 15) (.t 17)), o1 21 (.ld true 2 (.t 20)), o1 8 (.new [.nils, .int .i64 0]), o1 7 (.mv (.t 19)), o0 (.st 2 (.t 8) (.t 21))] false) (.seq (.reg [o1 22 (.mv (.t 1)), o1 23 (.mv (.t 7)), o1 24 (.ia 2 (.t 22) (.t 23)), o1 25 (.ld true 2 (.t 24)), o1 9 (.new [.nils, .int .i64 0]), o0 (.st 2 (.t 9) (.t 25))] false) (.seq (.reg [o1 26 (.mv (.t 2)), o1 27 (.ld true 2 (.t 8)), o1 28 (.ld true 2 (.t 9)), o1 29 (.callv (.t 26) [(.t 27), (.t 28)]), o1 30 (.not (.t 29))] false) (.cond (.t 30) (.seq (.reg [o1 6 (.mv (.c (.bool false)))] false) .ret) .skip))))) (.reg [o1 31 (.bin .add (.t 17) (cI 1)), o1 17 (.mv (.t 31))] false))))))) (.seq (.reg [o1 6 (.mv (.c (.bool true)))] false) .ret))))
theorem tr60 : tr Try.prog (Try.f60.body.getD .skip) = some c60 := by kernel_rfl
def c61 : Cd := (.seq (.reg [o1 2 (.box true 2 (.t 0)), o1 3 (.box true 2 (.t 1)), o1 4 (.mv (.c (.bool false)))] false) (.seq (.reg [o1 5 (.fa 1 (.t 2)), o1 6 (.ld false 1 (.t 5)), o1 7 (.fa 1 (.t 3)), o1 8 (.ld false 1 (.t 7)), o1 9 (.bin .eql (.t 6) (.t 8)), o1 10 (.mv (.t 9)), og 11 10 true (.fa 0 (.t 2)), og 12 10 true (.ld false 1 (.t 11)), og 13 10 true (.fa 0 (.t 3)), og 14 10 true (.ld false 1 (.t 13)), og 15 10 true (.call 59 [(.t 12), (.t 14)]), o1 16 (.pick (.t 10) (.t 15) (.c (.bool false))), o1 4 (.mv (.t 16))] false) .ret))
theorem tr61 : tr Try.prog (Try.f61.body.getD .skip) = some c61 := by kernel_rfl
def c63 : Cd := (.seq (.reg [o1 2 (.box true 4 (.t 0)), o1 3 (.mv (.c (.bool false)))] false) (.seq (.reg [o1 4 (.fa 0 (.t 2)), o1 5 (.ld false 1 (.t 4)), o1 6 (.ld false 1 (.t 1)), o1 7 (.bin .eql (.t 5) (.t 6)), o1 3 (.mv (.t 7))] false) .ret))
theorem tr63 : tr Try.prog (Try.f63.body.getD .skip) = some c63 := by kernel_rfl
set_option maxHeartbeats 2000000
def eqAll {α : Type} (p : α → α → Bool) : List α → List α → Bool
  | [], [] => true
  | x :: r, y :: s => p x y && eqAll p r s
  | _, _ => false
theorem eqAll_len {α : Type} (p : α → α → Bool) : ∀ (a b : List α), a.length ≠ b.length → eqAll p a b = false
  | [], [], h => absurd rfl h
  | x :: r, y :: s, h => by rw [eqAll, eqAll_len p r s (fun e => h (by simp [e])), Bool.and_false]
  | [], _ :: _, _ => rfl
  | _ :: _, [], _ => rfl
theorem eqAll_false {α : Type} (p : α → α → Bool) : ∀ (a b : List α) (i : Nat) (h1 : i < a.length) (h2 : i < b.length), p a[i] b[i] = false → eqAll p a b = false
  | x :: r, y :: s, 0, _, _, h => by rw [eqAll, show p x y = false from h, Bool.false_and]
  | x :: r, y :: s, i + 1, h1, h2, h => by rw [eqAll, eqAll_false p r s i (by simpa using h1) (by simpa using h2) (by simpa using h), Bool.and_false]
theorem eqAll_true {α : Type} (p : α → α → Bool) : ∀ (a b : List α), a.length = b.length → (∀ j (h1 : j < a.length) (h2 : j < b.length), p a[j] b[j] = true) → eqAll p a b = true
  | [], [], _, _ => rfl
  | x :: r, y :: s, hl, h => by
    rw [eqAll, show p x y = true from h 0 (by simp) (by simp), eqAll_true p r s (by simpa using hl) (fun j h1 h2 => h (j + 1) (by simpa using h1) (by simpa using h2))]; rfl
  | [], _ :: _, h, _ => by simp at h
  | _ :: _, [], h, _ => by simp at h
def Fld.same (a b : Fld) : Bool := decide (a.Name = b.Name) && decide (a.Ty = b.Ty)
def sameFs (a b : List Fld) : Bool := eqAll Fld.same a b
def sameIs (a b : List Int) : Bool := eqAll (fun x y => decide (x = y)) a b
def Str.same (a b : Str) : Bool := decide (a.Name = b.Name) && sameFs a.L b.L
def Fun.same (a b : Fun) : Bool := decide (a.Name = b.Name) && decide (a.Result = b.Result) && decide (a.Body = b.Body) && sameFs a.Params b.Params
def Cas.same (a b : Cas) : Bool := decide (a.Body = b.Body) && sameIs a.L b.L
def Nod.same (a b : Nod) : Bool := decide (a.Kind = b.Kind) && decide (a.N = b.N) && decide (a.Name = b.Name) && decide (a.A = b.A) && decide (a.B = b.B) && decide (a.C = b.C) && sameIs a.L b.L && eqAll Cas.same a.Cases b.Cases
def Cod.same (a b : Cod) : Bool := decide (a.Name = b.Name) && eqAll Str.same a.Structs b.Structs && eqAll Fun.same a.Funcs b.Funcs && eqAll Nod.same a.L b.L
@[simp] theorem str_beq (a b : ByteArray) : (a.toList == b.toList) = decide (a = b) := by
  by_cases h : a = b
  · simp [h]
  · have : a.toList ≠ b.toList := fun e => h (by
      rw [ByteArray.toList_eq, ByteArray.toList_eq] at e
      cases a; cases b; congr 1; exact Array.ext' e)
    simp [h, this]
attribute [local simp] cut spl one fillT
theorem equal_pure (a b : List Int) (ha : a.length ≤ 140737488355328) : Pure Try.prog 59 [ints a, ints b] (.bool (sameIs a b)) := by
  refine walk_of mo Try.func59 tr59 (rs := [.tmp 4]) (by rfl) (by rfl) ?_
  unfold c59 sameIs
  by_cases hl : a.length = b.length
  · simp [ints, hl]
    refine loop_up b.length (fun i => ⟨[(0, .t (ints a)), (1, .t (ints b)), (12, .t (i64 b.length)), (13, .t (i64 i))], []⟩) (fun i => ∀ j (h1 : j < a.length) (h2 : j < b.length), j < i → a[j] = b[j]) same ?_ ?_ ?_
    · simp [ints]
    · simp
    · intro i hi hR
      by_cases h : i < b.length
      · have h' : i < a.length := by omega
        by_cases e : a[i] = b[i]
        · simp [ints, hl, h, e]
          rw [wr_id (by omega) (by omega)]
          refine up_next same h ?_ ?_
          · intro j q1 q2 hj
            rcases Nat.lt_succ_iff_lt_or_eq.1 hj with h2 | h2
            · exact hR j (by omega) q2 h2
            · subst h2; exact e
          · simp [ints]
        · have := eqAll_false (fun x y => decide (x = y)) a b i h' h (by simpa using e)
          simp [ints, hl, h, e, this]
      · have := eqAll_true (fun x y => decide (x = y)) a b hl fun j q1 q2 => by simpa using hR j q1 q2 (by omega)
        simp [ints, h, this]
  · have := eqAll_len (fun x y => decide (x = y)) a b hl
    simp [ints, hl, this, Int.ofNat_inj]
theorem equalF_pure (a b : List Fld) (ha : a.length ≤ 140737488355328) : Pure Try.prog 31 [.lst 2 (a.map Fld.enc), .lst 2 (b.map Fld.enc)] (.bool (sameFs a b)) := by
  refine walk_of mo Try.func31 tr31 (rs := [.tmp 4]) (by rfl) (by rfl) ?_
  unfold c31 sameFs
  by_cases hl : a.length = b.length
  · simp [hl]
    refine loop_up b.length (fun i => ⟨[(0, .t (.lst 2 (a.map Fld.enc))), (1, .t (.lst 2 (b.map Fld.enc))), (12, .t (i64 b.length)), (13, .t (i64 i))], []⟩) (fun i => ∀ j (h1 : j < a.length) (h2 : j < b.length), j < i → a[j].same b[j] = true) same ?_ ?_ ?_
    · simp
    · simp
    · intro i hi hR
      by_cases h : i < b.length
      · have h' : i < a.length := by omega
        by_cases e1 : a[i].Name = b[i].Name
        · by_cases e2 : a[i].Ty = b[i].Ty
          · simp [hl, h, e1, e2, Fld.enc, eqCells]
            rw [wr_id (by omega) (by omega)]
            refine up_next same h ?_ ?_
            · intro j q1 q2 hj
              rcases Nat.lt_succ_iff_lt_or_eq.1 hj with h2 | h2
              · exact hR j (by omega) q2 h2
              · subst h2; simp [Fld.same, e1, e2]
            · simp
          · have := eqAll_false Fld.same a b i h' h (by simp [Fld.same, e2])
            simp [hl, h, e1, e2, this, Fld.enc, eqCells]
        · have := eqAll_false Fld.same a b i h' h (by simp [Fld.same, e1])
          simp [hl, h, e1, this, Fld.enc, eqCells]
      · have := eqAll_true Fld.same a b hl fun j q1 q2 => hR j q1 q2 (by omega)
        simp [h, this]
  · have := eqAll_len Fld.same a b hl
    simp [hl, this, Int.ofNat_inj]
theorem eqfunc29_pure {f : Nat} {caps : List T} {p : Str → Str → Bool} (a b : List Str) (h : ∀ x ∈ a, ∀ y ∈ b, Pure Try.prog f (.agg x.enc :: .agg y.enc :: caps) (.bool (p x y))) (hc : caps.length < 30) (ha : a.length ≤ 140737488355328) : Pure Try.prog 29 [.lst 2 (a.map Str.enc), .lst 2 (b.map Str.enc), .fn f caps] (.bool (eqAll p a b)) := by
  refine walk_of mo Try.func29 tr29 (rs := [.tmp 6]) (by rfl) (by rfl) ?_
  unfold c29
  by_cases hl : a.length = b.length
  · simp [hl]
    refine loop_up b.length (fun i => ⟨[(0, .t (.lst 2 (a.map Str.enc))), (1, .t (.lst 2 (b.map Str.enc))), (2, .t (.fn f caps)), (15, .t (.lst 2 (a.map Str.enc))), (16, .t (i64 b.length)), (17, .t (i64 i))], []⟩) (fun i => ∀ j (h1 : j < a.length) (h2 : j < b.length), j < i → p a[j] b[j] = true) same ?_ ?_ ?_
    · simp
    · simp
    · intro i hi hR
      by_cases h1 : i < b.length
      · have h1' : i < a.length := by omega
        simp [h1, h1', Str.enc]
        refine call_t (ts := .agg a[i].enc :: .agg b[i].enc :: caps) (.bool (p a[i] b[i])) (h _ (List.getElem_mem h1') _ (List.getElem_mem h1)) (by simp; omega) ?_
        cases hp : p a[i] b[i] with
        | true =>
          simp
          rw [wr_id (by omega) (by omega)]
          refine up_next same h1 ?_ ?_
          · intro j q1 q2 hj
            rcases Nat.lt_succ_iff_lt_or_eq.1 hj with h2 | h2
            · exact hR j (by omega) q2 h2
            · subst h2; exact hp
          · simp
        | false =>
          have : eqAll p a b = false := eqAll_false p a b i h1' h1 hp
          simp [this]
      · have : eqAll p a b = true := eqAll_true p a b hl fun j q1 q2 => hR j q1 q2 (by omega)
        simp [h1, this]
  · have : eqAll p a b = false := eqAll_len p a b hl
    simp [hl, this, Int.ofNat_inj]
theorem eqfunc32_pure {f : Nat} {caps : List T} {p : Fun → Fun → Bool} (a b : List Fun) (h : ∀ x ∈ a, ∀ y ∈ b, Pure Try.prog f (.agg x.enc :: .agg y.enc :: caps) (.bool (p x y))) (hc : caps.length < 30) (ha : a.length ≤ 140737488355328) : Pure Try.prog 32 [.lst 4 (a.map Fun.enc), .lst 4 (b.map Fun.enc), .fn f caps] (.bool (eqAll p a b)) := by
  refine walk_of mo Try.func32 tr32 (rs := [.tmp 6]) (by rfl) (by rfl) ?_
  unfold c32
  by_cases hl : a.length = b.length
  · simp [hl]
    refine loop_up b.length (fun i => ⟨[(0, .t (.lst 4 (a.map Fun.enc))), (1, .t (.lst 4 (b.map Fun.enc))), (2, .t (.fn f caps)), (15, .t (.lst 4 (a.map Fun.enc))), (16, .t (i64 b.length)), (17, .t (i64 i))], []⟩) (fun i => ∀ j (h1 : j < a.length) (h2 : j < b.length), j < i → p a[j] b[j] = true) same ?_ ?_ ?_
    · simp
    · simp
    · intro i hi hR
      by_cases h1 : i < b.length
      · have h1' : i < a.length := by omega
        simp [h1, h1', Fun.enc]
        refine call_t (ts := .agg a[i].enc :: .agg b[i].enc :: caps) (.bool (p a[i] b[i])) (h _ (List.getElem_mem h1') _ (List.getElem_mem h1)) (by simp; omega) ?_
        cases hp : p a[i] b[i] with
        | true =>
          simp
          rw [wr_id (by omega) (by omega)]
          refine up_next same h1 ?_ ?_
          · intro j q1 q2 hj
            rcases Nat.lt_succ_iff_lt_or_eq.1 hj with h2 | h2
            · exact hR j (by omega) q2 h2
            · subst h2; exact hp
          · simp
        | false =>
          have : eqAll p a b = false := eqAll_false p a b i h1' h1 hp
          simp [this]
      · have : eqAll p a b = true := eqAll_true p a b hl fun j q1 q2 => hR j q1 q2 (by omega)
        simp [h1, this]
  · have : eqAll p a b = false := eqAll_len p a b hl
    simp [hl, this, Int.ofNat_inj]
theorem eqfunc60_pure {f : Nat} {caps : List T} {p : Cas → Cas → Bool} (a b : List Cas) (h : ∀ x ∈ a, ∀ y ∈ b, Pure Try.prog f (.agg x.enc :: .agg y.enc :: caps) (.bool (p x y))) (hc : caps.length < 30) (ha : a.length ≤ 140737488355328) : Pure Try.prog 60 [.lst 2 (a.map Cas.enc), .lst 2 (b.map Cas.enc), .fn f caps] (.bool (eqAll p a b)) := by
  refine walk_of mo Try.func60 tr60 (rs := [.tmp 6]) (by rfl) (by rfl) ?_
  unfold c60
  by_cases hl : a.length = b.length
  · simp [hl]
    refine loop_up b.length (fun i => ⟨[(0, .t (.lst 2 (a.map Cas.enc))), (1, .t (.lst 2 (b.map Cas.enc))), (2, .t (.fn f caps)), (15, .t (.lst 2 (a.map Cas.enc))), (16, .t (i64 b.length)), (17, .t (i64 i))], []⟩) (fun i => ∀ j (h1 : j < a.length) (h2 : j < b.length), j < i → p a[j] b[j] = true) same ?_ ?_ ?_
    · simp
    · simp
    · intro i hi hR
      by_cases h1 : i < b.length
      · have h1' : i < a.length := by omega
        simp [h1, h1', Cas.enc, ints]
        refine call_t (ts := .agg a[i].enc :: .agg b[i].enc :: caps) (.bool (p a[i] b[i])) (h _ (List.getElem_mem h1') _ (List.getElem_mem h1)) (by simp; omega) ?_
        cases hp : p a[i] b[i] with
        | true =>
          simp
          rw [wr_id (by omega) (by omega)]
          refine up_next same h1 ?_ ?_
          · intro j q1 q2 hj
            rcases Nat.lt_succ_iff_lt_or_eq.1 hj with h2 | h2
            · exact hR j (by omega) q2 h2
            · subst h2; exact hp
          · simp
        | false =>
          have : eqAll p a b = false := eqAll_false p a b i h1' h1 hp
          simp [this]
      · have : eqAll p a b = true := eqAll_true p a b hl fun j q1 q2 => hR j q1 q2 (by omega)
        simp [h1, this]
  · have : eqAll p a b = false := eqAll_len p a b hl
    simp [hl, this, Int.ofNat_inj]
theorem eqfunc34_pure {f : Nat} {caps : List T} {p : Nod → Nod → Bool} (a b : List Nod) (h : ∀ x ∈ a, ∀ y ∈ b, Pure Try.prog f (.agg x.enc :: .agg y.enc :: caps) (.bool (p x y))) (hc : caps.length < 30) (ha : a.length ≤ 140737488355328) : Pure Try.prog 34 [.lst 8 (a.map Nod.enc), .lst 8 (b.map Nod.enc), .fn f caps] (.bool (eqAll p a b)) := by
  refine walk_of mo Try.func34 tr34 (rs := [.tmp 6]) (by rfl) (by rfl) ?_
  unfold c34
  by_cases hl : a.length = b.length
  · simp [hl]
    refine loop_up b.length (fun i => ⟨[(0, .t (.lst 8 (a.map Nod.enc))), (1, .t (.lst 8 (b.map Nod.enc))), (2, .t (.fn f caps)), (15, .t (.lst 8 (a.map Nod.enc))), (16, .t (i64 b.length)), (17, .t (i64 i))], []⟩) (fun i => ∀ j (h1 : j < a.length) (h2 : j < b.length), j < i → p a[j] b[j] = true) same ?_ ?_ ?_
    · simp
    · simp
    · intro i hi hR
      by_cases h1 : i < b.length
      · have h1' : i < a.length := by omega
        simp [h1, h1', Nod.enc, ints]
        refine call_t (ts := .agg a[i].enc :: .agg b[i].enc :: caps) (.bool (p a[i] b[i])) (h _ (List.getElem_mem h1') _ (List.getElem_mem h1)) (by simp; omega) ?_
        cases hp : p a[i] b[i] with
        | true =>
          simp
          rw [wr_id (by omega) (by omega)]
          refine up_next same h1 ?_ ?_
          · intro j q1 q2 hj
            rcases Nat.lt_succ_iff_lt_or_eq.1 hj with h2 | h2
            · exact hR j (by omega) q2 h2
            · subst h2; exact hp
          · simp
        | false =>
          have : eqAll p a b = false := eqAll_false p a b i h1' h1 hp
          simp [this]
      · have : eqAll p a b = true := eqAll_true p a b hl fun j q1 q2 => hR j q1 q2 (by omega)
        simp [h1, this]
  · have : eqAll p a b = false := eqAll_len p a b hl
    simp [hl, this, Int.ofNat_inj]
theorem same30_pure (a b : Str) (ha : a.L.length ≤ 140737488355328) : Pure Try.prog 30 [.agg a.enc, .agg b.enc] (.bool (a.same b)) := by
  refine walk_of mo Try.func30 tr30 (rs := [.tmp 4]) (by rfl) (by rfl) ?_
  unfold c30 Str.same
  by_cases e1 : a.Name = b.Name
  · simp [Str.enc, e1]
    refine call_t (ts := [.lst 2 (a.L.map Fld.enc), .lst 2 (b.L.map Fld.enc)]) _ (equalF_pure a.L b.L ha) (by simp) ?_
    simp
  · simp [Str.enc, e1]
theorem same33_pure (a b : Fun) (ha : a.Params.length ≤ 140737488355328) : Pure Try.prog 33 [.agg a.enc, .agg b.enc] (.bool (a.same b)) := by
  refine walk_of mo Try.func33 tr33 (rs := [.tmp 4]) (by rfl) (by rfl) ?_
  unfold c33 Fun.same
  by_cases e1 : a.Name = b.Name
  · by_cases e2 : a.Result = b.Result
    · by_cases e3 : a.Body = b.Body
      · simp [Fun.enc, e1, e2, e3]
        refine call_t (ts := [.lst 2 (a.Params.map Fld.enc), .lst 2 (b.Params.map Fld.enc)]) _ (equalF_pure a.Params b.Params ha) (by simp) ?_
        simp
      · simp [Fun.enc, e1, e2, e3]
    · simp [Fun.enc, e1, e2]
  · simp [Fun.enc, e1]
theorem same61_pure (a b : Cas) (ha : a.L.length ≤ 140737488355328) : Pure Try.prog 61 [.agg a.enc, .agg b.enc] (.bool (a.same b)) := by
  refine walk_of mo Try.func61 tr61 (rs := [.tmp 4]) (by rfl) (by rfl) ?_
  unfold c61 Cas.same
  by_cases e1 : a.Body = b.Body
  · simp [Cas.enc, ints, e1]
    refine call_t (ts := [ints a.L, ints b.L]) _ (equal_pure a.L b.L ha) (by simp) ?_
    simp
  · simp [Cas.enc, ints, e1]
theorem same35_pure (a b : Nod) (h1 : a.L.length ≤ 140737488355328) (h2 : a.Cases.length ≤ 140737488355328) (h3 : ∀ x ∈ a.Cases, x.L.length ≤ 140737488355328) : Pure Try.prog 35 [.agg a.enc, .agg b.enc] (.bool (a.same b)) := by
  refine walk_of mo Try.func35 tr35 (rs := [.tmp 4]) (by rfl) (by rfl) ?_
  unfold c35 Nod.same
  by_cases e1 : a.Kind = b.Kind
  · by_cases e2 : a.N = b.N
    · by_cases e3 : a.Name = b.Name
      · by_cases e4 : a.A = b.A
        · by_cases e5 : a.B = b.B
          · by_cases e6 : a.C = b.C
            · simp [Nod.enc, ints, e1, e2, e3, e4, e5, e6]
              refine call_t (ts := [ints a.L, ints b.L]) _ (equal_pure a.L b.L h1) (by simp) ?_
              cases hs : sameIs a.L b.L with
              | false => simp
              | true =>
                simp
                refine call_t (ts := [.lst 2 (a.Cases.map Cas.enc), .lst 2 (b.Cases.map Cas.enc), .fn 61 []]) _ (eqfunc60_pure a.Cases b.Cases (fun x hx y _ => same61_pure x y (h3 x hx)) (by simp) h2) (by simp) ?_
                simp
            · simp [Nod.enc, ints, e1, e2, e3, e4, e5, e6]
          · simp [Nod.enc, ints, e1, e2, e3, e4, e5]
        · simp [Nod.enc, ints, e1, e2, e3, e4]
      · simp [Nod.enc, ints, e1, e2, e3]
    · simp [Nod.enc, ints, e1, e2]
  · simp [Nod.enc, ints, e1]
theorem leT_leaf (k : Int) : leT (.agg [i64 k, i64 0, .str ByteArray.empty, i64 (-1), i64 (-1), i64 (-1), .nils, .nils]) (.agg [i64 k, i64 0, .str ByteArray.empty, i64 (-1), i64 (-1), i64 (-1), .lst 1 [], .lst 2 []]) := by
  refine .agg _ _ rfl fun j x y hx hy => ?_
  match j with
  | 0 => simp at hx hy; subst hx hy; exact .refl _
  | 1 => simp at hx hy; subst hx hy; exact .refl _
  | 2 => simp at hx hy; subst hx hy; exact .refl _
  | 3 => simp at hx hy; subst hx hy; exact .refl _
  | 4 => simp at hx hy; subst hx hy; exact .refl _
  | 5 => simp at hx hy; subst hx hy; exact .refl _
  | 6 => simp at hx hy; subst hx hy; exact .nil _
  | 7 => simp at hx hy; subst hx hy; exact .nil _
  | j + 8 => simp at hx
theorem leaf_pure (k : Int) : Pure Try.prog 38 [i64 k] (.agg (Nod.enc ⟨k, 0, ByteArray.empty, -1, -1, -1, [], []⟩)) := by
  refine walk_of mo Try.func38 tr38 (rs := [.cell 2 true 8]) (by rfl) (by rfl) ?_
  unfold c38
  simp [Nod.enc, ints]
  exact leT_leaf k
theorem find1_pure (s : ByteArray) (f : Fun) : Pure Try.prog 63 [.agg f.enc, .ref 1 [[.str s]] 0 0] (.bool (decide (f.Name = s))) := by
  refine walk_of mo Try.func63 tr63 (rs := [.tmp 3]) (by rfl) (by rfl) ?_
  unfold c63
  simp [Fun.enc]
theorem find_pure (c : Cod) (s : ByteArray) (h : c.Funcs.length ≤ 140737488355328) : Pure Try.prog 37 [.agg c.enc, .str s] (i64 (firstAt (fun f : Fun => decide (f.Name = s)) c.Funcs 0)) := by
  refine walk_of mo Try.func37 tr37 (rs := [.tmp 4]) (by rfl) (by rfl) ?_
  unfold c37
  simp [Cod.enc]
  refine call_intro (ts := [.lst 4 (c.Funcs.map Fun.enc), .fn 63 [.ref 1 [[.str s]] 0 0]]) (by simp) (i64 (firstAt (fun f : Fun => decide (f.Name = s)) c.Funcs 0)) (index62_pure (fun x => rfl) c.Funcs (fun x _ => find1_pure s x) (by simp) h) (.inr (by rfl)) ?_
  simp
def Cod.sameN (a b : Cod) : Bool := decide (a.may = 0) && decide (b.may = 0) && a.norm.same b.norm
theorem normLAt_ok (c : Cod) (h : c.may = 0) (ok : c.Ok) (ok2 : ∀ n ∈ c.L, ∀ x ∈ n.Cases, x.L.length ≤ 1000000000) : ∀ m, ∀ n ∈ c.normLAt m, n.L.length ≤ 1000000000 ∧ n.Cases.length ≤ 1000000000 ∧ ∀ x ∈ n.Cases, x.L.length ≤ 1000000000
  | 0, n, hn => by
    simp only [Cod.normLAt, List.range_zero, List.foldl_nil, List.mem_replicate] at hn
    rw [hn.2]; simp [Nod.zero]
  | m + 1, n, hn => by
    rw [normLAt_succ] at hn
    rcases List.mem_or_eq_of_mem_set hn with hn | rfl
    · exact normLAt_ok c h ok ok2 m n hn
    · have key : ∀ n : Nod, (n.L.length ≤ 1000000000 ∧ n.Cases.length ≤ 1000000000 ∧ ∀ x ∈ n.Cases, x.L.length ≤ 1000000000) → (n.moved c.order).L.length ≤ 1000000000 ∧ (n.moved c.order).Cases.length ≤ 1000000000 ∧ ∀ x ∈ (n.moved c.order).Cases, x.L.length ≤ 1000000000 := by
        intro n ⟨h1, h2, h3⟩
        refine ⟨by simpa [Nod.moved] using h1, by simpa [Nod.moved] using h2, fun x hx => ?_⟩
        simp only [Nod.moved, List.mem_map] at hx
        obtain ⟨y, hy, rfl⟩ := hx
        exact h3 y hy
      apply key
      rw [List.getD_eq_getElem?_getD]
      cases e : c.L[m]? with
      | none => simp [Nod.zero]
      | some n =>
        have hm := List.mem_of_getElem? e
        obtain ⟨o1, o2, _⟩ := ok.n n hm
        exact ⟨o1, o2, ok2 n hm⟩
theorem same_pure (a b : Cod) (oa : a.Ok) (oa2 : ∀ n ∈ a.L, ∀ x ∈ n.Cases, x.L.length ≤ 1000000000) (ob : b.Ok) (ob2 : ∀ n ∈ b.L, ∀ x ∈ n.Cases, x.L.length ≤ 1000000000) : Pure Try.prog 12 [.agg a.enc, .agg b.enc] (.bool (a.sameN b)) := by
  refine walk_of mo Try.func12 tr12 (rs := [.tmp 4]) (by rfl) (by rfl) ?_
  unfold c12
  simp [Cod.enc]
  refine call_t (ts := [.agg a.enc]) _ (norm_pure a oa oa2) (by simp) ?_
  simp [Cod.enc]
  refine call_t (ts := [.agg b.enc]) _ (norm_pure b ob ob2) (by simp) ?_
  by_cases h1 : a.may = 0
  · by_cases h2 : b.may = 0
    · by_cases h3 : a.norm.Name = b.norm.Name
      · have hcnt : a.counted = true := by
          cases h : a.counted with
          | true => rfl
          | false => simp [Cod.may, h] at h1
        have hN : a.norm = a.normed := by rw [Cod.norm, if_pos h1]
        have hs : a.norm.Structs = a.Structs := by rw [hN]; rfl
        have hf : a.norm.Funcs = a.Funcs.map (Fun.moved a) := by rw [hN]; rfl
        have hL : a.norm.L = a.normLAt a.L.length := by rw [hN]; rfl
        simp [Cod.counted] at hcnt
        obtain ⟨⟨⟨⟨q1, q2⟩, q3⟩, q4⟩, q5⟩ := hcnt
        have b1 : a.norm.Structs.length ≤ 140737488355328 := by rw [hs]; omega
        have b2 : ∀ s ∈ a.norm.Structs, s.L.length ≤ 140737488355328 := by rw [hs]; intro s m; have := q4 s m; omega
        have b3 : a.norm.Funcs.length ≤ 140737488355328 := by rw [hf, List.length_map]; omega
        have b4 : ∀ s ∈ a.norm.Funcs, s.Params.length ≤ 140737488355328 := by
          rw [hf]; intro s m
          obtain ⟨f, hf2, rfl⟩ := List.mem_map.1 m
          have := q5 f hf2
          simp only [Fun.moved]; omega
        have b5 : a.norm.L.length ≤ 140737488355328 := by rw [hL, normLAt_len]; omega
        have b6 : ∀ n ∈ a.norm.L, n.L.length ≤ 140737488355328 ∧ n.Cases.length ≤ 140737488355328 ∧ ∀ x ∈ n.Cases, x.L.length ≤ 140737488355328 := by
          rw [hL]; intro n m
          obtain ⟨r1, r2, r3⟩ := normLAt_ok a h1 oa oa2 _ n m
          exact ⟨by omega, by omega, fun x hx => by have := r3 x hx; omega⟩
        have hgoal : a.sameN b = a.norm.same b.norm := by simp [Cod.sameN, h1, h2]
        rw [hgoal]
        generalize a.norm = x at *
        generalize b.norm = y at *
        simp [Cod.enc, h1, h2, h3]
        refine call_t (ts := [.lst 2 (x.Structs.map Str.enc), .lst 2 (y.Structs.map Str.enc), .fn 30 []]) _ (eqfunc29_pure x.Structs y.Structs (fun s hs2 t _ => same30_pure s t (b2 s hs2)) (by simp) b1) (by simp) ?_
        cases e1 : eqAll Str.same x.Structs y.Structs with
        | false => simp [Cod.same, e1]
        | true =>
          simp
          refine call_t (ts := [.lst 4 (x.Funcs.map Fun.enc), .lst 4 (y.Funcs.map Fun.enc), .fn 33 []]) _ (eqfunc32_pure x.Funcs y.Funcs (fun s hs2 t _ => same33_pure s t (b4 s hs2)) (by simp) b3) (by simp) ?_
          cases e2 : eqAll Fun.same x.Funcs y.Funcs with
          | false => simp [Cod.same, e2]
          | true =>
            simp
            refine call_t (ts := [.lst 8 (x.L.map Nod.enc), .lst 8 (y.L.map Nod.enc), .fn 35 []]) _ (eqfunc34_pure x.L y.L (fun s hs2 t _ => same35_pure s t (b6 s hs2).1 (b6 s hs2).2.1 (b6 s hs2).2.2) (by simp) b5) (by simp) ?_
            simp [Cod.same, h3, e1, e2]
      · simp [Cod.enc, h1, h2, h3, Cod.sameN, Cod.same]
    · simp [Cod.enc, h1, h2, Cod.sameN]
  · simp [Cod.enc, h1, Cod.sameN]

end Go.Eng
