/- What the program's functions 99,98,83 compute (numbers of this seat): contracts, walked by the engine. -/
import Derived.Test.YthcogpecnmhhlaaEngU
import Derived.Test.YthcogpecnmhhlaaCodG
import Derived.Test.YthcogpecnmhhlaaProg
namespace Go.Eng
open Go Go.Proofs
set_option maxRecDepth 100000
set_option linter.all false
def c83 : Cd := (.seq (.reg [o1 3 (.box true 4 (.t 0)), o1 4 (.box false 1 (.t 1)), o1 6 (.mv (.c (.bool false)))] false) (.seq (.reg [o1 7 (.mv (.t 2)), o1 8 (.mkf 98 [(.t 3), (.t 4)]), o1 9 (.call 97 [(.t 7), (.t 8)]), o1 10 (.not (.t 9)), o1 6 (.mv (.t 10))] false) .ret))
theorem tr83 : tr Try.prog (Try.f83.body.getD .skip) = some c83 := by kernel_rfl
def c98 : Cd := (.seq (.reg [o1 3 (.box true 2 (.t 0)), o1 4 (.mv (.c (.bool false)))] false) (.seq (.reg [o1 5 (.fa 0 (.t 3)), o1 6 (.ld false 1 (.t 5)), o1 7 (.len (.t 6)), o1 8 (.bin .eql (.t 7) (cI 0)), o1 9 (.mv (.t 8)), og 10 9 false (.fa 0 (.t 3)), og 11 9 false (.ld false 1 (.t 10)), og 12 9 false (.call 50 [(.t 11), (.c (.fn 99 []))]), o1 13 (.pick (.t 9) (.c (.bool true)) (.t 12)), o1 14 (.mv (.t 13)), og 15 14 false (.ld true 4 (.t 1)), og 16 14 false (.ld false 1 (.t 2)), og 17 14 false (.fa 1 (.t 3)), og 18 14 false (.ld false 1 (.t 17)), og 19 14 false (.call 48 [(.t 15), (.t 16), (.t 18), (.c (.fn 49 []))]), og 20 14 false (.not (.t 19)), o1 21 (.pick (.t 14) (.c (.bool true)) (.t 20)), o1 4 (.mv (.t 21))] false) .ret))
theorem tr98 : tr Try.prog (Try.f98.body.getD .skip) = some c98 := by kernel_rfl
def c99 : Cd := (.seq (.reg [o1 2 (.mv (.c (.bool false)))] false) (.seq (.reg [o1 3 (.mv (.t 0)), o1 4 (.call 95 [(.t 3)]), o1 5 (.not (.t 4)), o1 2 (.mv (.t 5))] false) .ret))
theorem tr99 : tr Try.prog (Try.f99.body.getD .skip) = some c99 := by kernel_rfl
set_option maxHeartbeats 1000000
def numB (n : Int) : Bool := decide (0 ≤ n ∧ n ≤ 2147483647)
theorem cases11_pure (n : Int) : Pure Try.prog 99 [i64 n] (.bool (!numB n)) := by
  refine walk_of mo Try.func99 tr99 (rs := [.tmp 2]) (by rfl) (by rfl) ?_
  unfold c99
  simp
  refine call_t (ts := [i64 n]) _ (num_pure n) (by simp) ?_
  simp [numB]
def Cod.caseBad (c : Cod) (pl : Int) (x : Cas) : Bool := decide (x.L.length = 0) || x.L.any (fun n => !numB n) || !c.child pl x.Body (fun k => decide (k = 11))
theorem cases1_pure (c : Cod) (pl : Int) (x : Cas) (hpl : -1 ≤ pl) (hL : c.L.length ≤ 1000000000) (hx : x.L.length ≤ 140737488355328) :
    Pure Try.prog 98 [.agg x.enc, .ref 4 [c.enc] 0 0, .ref 1 [[i64 pl]] 0 0] (.bool (c.caseBad pl x)) := by
  refine walk_of mo Try.func98 tr98 (rs := [.tmp 4]) (by rfl) (by rfl) ?_
  unfold c98 Cod.caseBad
  by_cases h0 : x.L = []
  · simp [Cas.enc, Cod.enc, ints, h0]
  · simp [Cas.enc, Cod.enc, ints, h0]
    refine call_t (ts := [ints x.L, .fn 99 []]) _ (contains_pure cases11_pure (by simp) x.L hx) (by simp) ?_
    cases h2 : x.L.any fun n => !numB n with
    | true => simp
    | false =>
      simp [cut]
      refine call_t (ts := [.agg c.enc, i64 pl, i64 x.Body, .fn 49 []]) _ (child_pure c pl x.Body 49 [] _ (by simp) block_pure hpl hL) (by simp) ?_
      simp
theorem cas_len (x : Cas) : x.enc.length = 2 := rfl
theorem cases_pure (c : Cod) (pl : Int) (l : List Cas) (hpl : -1 ≤ pl) (hL : c.L.length ≤ 1000000000) (hl : l.length ≤ 140737488355328) (hx : ∀ x ∈ l, x.L.length ≤ 140737488355328) :
    Pure Try.prog 83 [.agg c.enc, i64 pl, .lst 2 (l.map Cas.enc)] (.bool (!l.any (c.caseBad pl))) := by
  refine walk_of mo Try.func83 tr83 (rs := [.tmp 6]) (by rfl) (by rfl) ?_
  unfold c83
  simp [Cod.enc]
  refine call_intro (ts := [.lst 2 (l.map Cas.enc), .fn 98 [.ref 4 [c.enc] 0 0, .ref 1 [[i64 pl]] 0 0]]) (by simp [Cod.enc]) (.bool (l.any (c.caseBad pl))) (contains97_pure cas_len l (fun x hm => cases1_pure c pl x hpl hL (hx x hm)) (by simp) hl) (.inr (by rfl)) ?_
  simp

end Go.Eng
