/- What the program's functions 75,76 compute (numbers of this seat): contracts, walked by the engine. -/
import Derived.Test.YthcogpecnmhhlaaEngU
import Derived.Test.YthcogpecnmhhlaaCodI
import Derived.Test.YthcogpecnmhhlaaProg
namespace Go.Eng
open Go Go.Proofs
set_option maxRecDepth 100000
set_option linter.all false
def c75 : Cd := (.seq (.reg [o1 2 (.mv (.c (.bool false)))] false) (.seq (.reg [o1 3 (.mv (.t 0)), o1 4 (.call 50 [(.t 3), (.c (.fn 76 []))]), o1 5 (.not (.t 4)), o1 2 (.mv (.t 5))] false) .ret))
theorem tr75 : tr Try.prog (Try.f75.body.getD .skip) = some c75 := by kernel_rfl
def c76 : Cd := (.seq (.reg [o1 2 (.mv (.c (.bool false)))] false) (.seq (.reg [o1 3 (.mv (.t 0)), o1 4 (.bin .neq (.t 3) (cI (-1))), o1 2 (.mv (.t 4))] false) .ret))
theorem tr76 : tr Try.prog (Try.f76.body.getD .skip) = some c76 := by kernel_rfl
set_option maxHeartbeats 2000000
theorem none1_pure (x : Int) : Pure Try.prog 76 [i64 x] (.bool (!decide (x = -1))) := by
  refine walk_of mo Try.func76 tr76 (rs := [.tmp 2]) (by rfl) (by rfl) ?_
  unfold c76
  simp
theorem none_pure (l : List Int) (hl : l.length ≤ 140737488355328) : Pure Try.prog 75 [ints l] (.bool (!l.any fun x => !decide (x = -1))) := by
  refine walk_of mo Try.func75 tr75 (rs := [.tmp 2]) (by rfl) (by rfl) ?_
  unfold c75
  simp
  refine call_t (ts := [ints l, .fn 76 []]) _ (contains_pure none1_pure (by simp) l hl) (by simp) ?_
  simp

end Go.Eng
