/- What the program's functions 77,95,79,49,84,82,80 compute (numbers of this seat): contracts, walked by the engine. -/
import Derived.Test.YthcogpecnmhhlaaEngU
import Derived.Test.YthcogpecnmhhlaaCodC
import Derived.Test.YthcogpecnmhhlaaProg
namespace Go.Eng
open Go Go.Proofs
set_option maxRecDepth 100000
set_option linter.all false
def c49 : Cd := (.seq (.reg [o1 2 (.mv (.c (.bool false)))] false) (.seq (.reg [o1 3 (.mv (.t 0)), o1 4 (.bin .eql (.t 3) (cI 11)), o1 2 (.mv (.t 4))] false) .ret))
theorem tr49 : tr Try.prog (Try.f49.body.getD .skip) = some c49 := by kernel_rfl
def c77 : Cd := (.seq (.reg [o1 2 (.mv (.c (.bool false)))] false) (.seq (.reg [o1 3 (.mv (.t 0)), o1 4 (.bin .geq (.t 3) (cI 1)), o1 5 (.mv (.t 4)), og 6 5 true (.mv (.t 0)), og 7 5 true (.bin .leq (.t 6) (cI 10)), o1 8 (.pick (.t 5) (.t 7) (.c (.bool false))), o1 2 (.mv (.t 8))] false) .ret))
theorem tr77 : tr Try.prog (Try.f77.body.getD .skip) = some c77 := by kernel_rfl
def c79 : Cd := (.seq (.reg [o1 2 (.mv (.c (.bool false)))] false) (.seq (.reg [o1 3 (.mv (.t 0)), o1 4 (.bin .geq (.t 3) (cI 12)), o1 5 (.mv (.t 4)), og 6 5 true (.mv (.t 0)), og 7 5 true (.bin .leq (.t 6) (cI 18)), o1 8 (.pick (.t 5) (.t 7) (.c (.bool false))), o1 2 (.mv (.t 8))] false) .ret))
theorem tr79 : tr Try.prog (Try.f79.body.getD .skip) = some c79 := by kernel_rfl
def c80 : Cd := (.seq (.reg [o1 2 (.mv (.c (.bool false)))] false) (.seq (.reg [o1 3 (.mv (.t 0)), o1 4 (.bin .eql (.t 3) (cI 4)), o1 5 (.mv (.t 4)), og 6 5 false (.mv (.t 0)), og 7 5 false (.bin .eql (.t 6) (cI 9)), o1 8 (.pick (.t 5) (.c (.bool true)) (.t 7)), o1 2 (.mv (.t 8))] false) .ret))
theorem tr80 : tr Try.prog (Try.f80.body.getD .skip) = some c80 := by kernel_rfl
def c82 : Cd := (.seq (.reg [o1 2 (.mv (.c (.bool false)))] false) (.seq (.reg [o1 3 (.mv (.t 0)), o1 4 (.bin .eql (.t 3) (cI 11)), o1 5 (.mv (.t 4)), og 6 5 false (.mv (.t 0)), og 7 5 false (.bin .eql (.t 6) (cI 14)), o1 8 (.pick (.t 5) (.c (.bool true)) (.t 7)), o1 2 (.mv (.t 8))] false) .ret))
theorem tr82 : tr Try.prog (Try.f82.body.getD .skip) = some c82 := by kernel_rfl
def c84 : Cd := (.seq (.reg [o1 2 (.mv (.c (.bool false)))] false) (.seq (.reg [o1 3 (.mv (.t 0)), o1 4 (.bin .eql (.t 3) (cI 8)), o1 2 (.mv (.t 4))] false) .ret))
theorem tr84 : tr Try.prog (Try.f84.body.getD .skip) = some c84 := by kernel_rfl
def c95 : Cd := (.seq (.reg [o1 2 (.mv (.c (.bool false)))] false) (.seq (.reg [o1 3 (.mv (.t 0)), o1 4 (.bin .geq (.t 3) (cI 0)), o1 5 (.mv (.t 4)), og 6 5 true (.mv (.t 0)), og 7 5 true (.bin .leq (.t 6) (cI 2147483647)), o1 8 (.pick (.t 5) (.t 7) (.c (.bool false))), o1 2 (.mv (.t 8))] false) .ret))
theorem tr95 : tr Try.prog (Try.f95.body.getD .skip) = some c95 := by kernel_rfl
set_option maxHeartbeats 1000000
theorem expr_pure (k : Int) : Pure Try.prog 77 [i64 k] (.bool (decide (1 ≤ k ∧ k ≤ 10))) := by
  refine walk_of mo Try.func77 tr77 (rs := [.tmp 2]) (by rfl) (by rfl) ?_
  unfold c77
  by_cases h : (1 : Int) ≤ k <;> simp [h]
theorem num_pure (k : Int) : Pure Try.prog 95 [i64 k] (.bool (decide (0 ≤ k ∧ k ≤ 2147483647))) := by
  refine walk_of mo Try.func95 tr95 (rs := [.tmp 2]) (by rfl) (by rfl) ?_
  unfold c95
  by_cases h : (0 : Int) ≤ k <;> simp [h]
theorem stmt_pure (k : Int) : Pure Try.prog 79 [i64 k] (.bool (decide (12 ≤ k ∧ k ≤ 18))) := by
  refine walk_of mo Try.func79 tr79 (rs := [.tmp 2]) (by rfl) (by rfl) ?_
  unfold c79
  by_cases h : (12 : Int) ≤ k <;> simp [h]
theorem block_pure (k : Int) : Pure Try.prog 49 [i64 k] (.bool (decide (k = 11))) := by
  refine walk_of mo Try.func49 tr49 (rs := [.tmp 2]) (by rfl) (by rfl) ?_
  unfold c49
  simp
theorem call_pure (k : Int) : Pure Try.prog 84 [i64 k] (.bool (decide (k = 8))) := by
  refine walk_of mo Try.func84 tr84 (rs := [.tmp 2]) (by rfl) (by rfl) ?_
  unfold c84
  simp
theorem other_pure (k : Int) : Pure Try.prog 82 [i64 k] (.bool (decide (k = 11 ∨ k = 14))) := by
  refine walk_of mo Try.func82 tr82 (rs := [.tmp 2]) (by rfl) (by rfl) ?_
  unfold c82
  by_cases h : k = 11 <;> simp [h]
theorem place_pure (k : Int) : Pure Try.prog 80 [i64 k] (.bool (decide (k = 4 ∨ k = 9))) := by
  refine walk_of mo Try.func80 tr80 (rs := [.tmp 2]) (by rfl) (by rfl) ?_
  unfold c80
  by_cases h : k = 4 <;> simp [h]

end Go.Eng
