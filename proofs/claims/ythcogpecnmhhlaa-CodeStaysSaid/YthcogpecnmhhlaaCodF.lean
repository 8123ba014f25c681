/- What the program's functions 50,81,96,78 compute (numbers of this seat): contracts, walked by the engine. -/
import Derived.Test.YthcogpecnmhhlaaEngU
import Derived.Test.YthcogpecnmhhlaaCodE
import Derived.Test.YthcogpecnmhhlaaProg
namespace Go.Eng
open Go Go.Proofs
set_option maxRecDepth 100000
set_option linter.all false
def c50 : Cd := (.seq (.reg [o1 4 (.mv (.c (.bool false)))] false) (.seq (.reg [o1 5 (.mv (.t 0)), o1 6 (.mv (.t 1)), o1 7 (.call 87 [(.t 5), (.t 6)]), o1 8 (.bin .geq (.t 7) (cI 0)), o1 4 (.mv (.t 8))] false) .ret))
theorem tr50 : tr Try.prog (Try.f50.body.getD .skip) = some c50 := by kernel_rfl
def c78 : Cd := (.seq (.reg [o1 4 (.box true 4 (.t 0)), o1 5 (.box false 1 (.t 1)), o1 7 (.box false 1 (.t 3)), o1 8 (.mv (.c (.bool false)))] false) (.seq (.reg [o1 9 (.mv (.t 2)), o1 10 (.mkf 96 [(.t 4), (.t 5), (.t 7)]), o1 11 (.call 50 [(.t 9), (.t 10)]), o1 12 (.not (.t 11)), o1 8 (.mv (.t 12))] false) .ret))
theorem tr78 : tr Try.prog (Try.f78.body.getD .skip) = some c78 := by kernel_rfl
def c81 : Cd := (.seq (.reg [o1 4 (.box true 4 (.t 0)), o1 8 (.mv (.c (.bool false)))] false) (.seq (.reg [o1 9 (.mv (.t 2)), o1 10 (.bin .eql (.t 9) (cI (-1))), o1 11 (.mv (.t 10)), og 12 11 false (.ld true 4 (.t 4)), og 13 11 false (.mv (.t 1)), og 14 11 false (.mv (.t 2)), og 15 11 false (.mv (.t 3)), og 16 11 false (.call 48 [(.t 12), (.t 13), (.t 14), (.t 15)]), o1 17 (.pick (.t 11) (.c (.bool true)) (.t 16)), o1 8 (.mv (.t 17))] false) .ret))
theorem tr81 : tr Try.prog (Try.f81.body.getD .skip) = some c81 := by kernel_rfl
def c96 : Cd := (.seq (.reg [o1 5 (.mv (.c (.bool false)))] false) (.seq (.reg [o1 6 (.ld true 4 (.t 1)), o1 7 (.ld false 1 (.t 2)), o1 8 (.mv (.t 0)), o1 9 (.ld false 1 (.t 3)), o1 10 (.call 48 [(.t 6), (.t 7), (.t 8), (.t 9)]), o1 11 (.not (.t 10)), o1 5 (.mv (.t 11))] false) .ret))
theorem tr96 : tr Try.prog (Try.f96.body.getD .skip) = some c96 := by kernel_rfl
set_option maxHeartbeats 1000000
theorem contains_pure {f : Nat} {caps : List T} {p : Int → Bool} (h : ∀ x, Pure Try.prog f (i64 x :: caps) (.bool (p x))) (hc : caps.length < 30) (a : List Int) (ha : a.length ≤ 140737488355328) : Pure Try.prog 50 [ints a, .fn f caps] (.bool (a.any p)) := by
  refine walk_of mo Try.func50 tr50 (rs := [.tmp 4]) (by rfl) (by rfl) ?_
  unfold c50
  simp
  refine call_t (ts := [ints a, .fn f caps]) (i64 (firstAt p a 0)) (index_pure h hc a ha) (by simp) ?_
  rcases firstAt_spec (p := p) (a := a) (k := 0) with ⟨h1, h2⟩ | ⟨i0, hi0, h1, h2, h3⟩
  · have : a.any p = false := List.any_eq_false.2 fun x hx => by simp [h2 x hx]
    simp [h1, this]
  · have : a.any p = true := List.any_eq_true.2 ⟨_, List.getElem_mem hi0, h2⟩
    simp [h1, this]
theorem some_pure (c : Cod) (pl i : Int) (f : Nat) (caps : List T) (p : Int → Bool) (hc : caps.length < 30) (h : ∀ k, Pure Try.prog f (i64 k :: caps) (.bool (p k))) (hpl : -1 ≤ pl) (hL : c.L.length ≤ 1000000000) :
    Pure Try.prog 81 [.agg c.enc, i64 pl, i64 i, .fn f caps] (.bool (decide (i = -1) || c.child pl i p)) := by
  refine walk_of mo Try.func81 tr81 (rs := [.tmp 8]) (by rfl) (by rfl) ?_
  unfold c81
  by_cases h1 : i = -1
  · simp [Cod.enc, h1]
  · simp [Cod.enc, h1, cut]
    refine call_t (ts := [.agg c.enc, i64 pl, i64 i, .fn f caps]) _ (child_pure c pl i f caps p hc h hpl hL) (by simp) ?_
    simp
theorem all1_pure (c : Cod) (pl i : Int) (f : Nat) (caps : List T) (p : Int → Bool) (hc : caps.length < 30) (h : ∀ k, Pure Try.prog f (i64 k :: caps) (.bool (p k))) (hpl : -1 ≤ pl) (hL : c.L.length ≤ 1000000000) :
    Pure Try.prog 96 [i64 i, .ref 4 [c.enc] 0 0, .ref 1 [[i64 pl]] 0 0, .ref 1 [[.fn f caps]] 0 0] (.bool (!c.child pl i p)) := by
  refine walk_of mo Try.func96 tr96 (rs := [.tmp 5]) (by rfl) (by rfl) ?_
  unfold c96
  simp [Cod.enc, cut]
  refine call_t (ts := [.agg c.enc, i64 pl, i64 i, .fn f caps]) _ (child_pure c pl i f caps p hc h hpl hL) (by simp) ?_
  simp
theorem all_pure (c : Cod) (pl : Int) (l : List Int) (f : Nat) (caps : List T) (p : Int → Bool) (hc : caps.length < 30) (h : ∀ k, Pure Try.prog f (i64 k :: caps) (.bool (p k))) (hpl : -1 ≤ pl) (hL : c.L.length ≤ 1000000000) (hl : l.length ≤ 140737488355328) :
    Pure Try.prog 78 [.agg c.enc, i64 pl, ints l, .fn f caps] (.bool (!l.any fun i => !c.child pl i p)) := by
  refine walk_of mo Try.func78 tr78 (rs := [.tmp 8]) (by rfl) (by rfl) ?_
  unfold c78
  simp [Cod.enc]
  refine call_intro (ts := [ints l, .fn 96 [.ref 4 [c.enc] 0 0, .ref 1 [[i64 pl]] 0 0, .ref 1 [[.fn f caps]] 0 0]]) (by simp [Cod.enc]) (.bool (l.any fun i => !c.child pl i p)) (contains_pure (fun x => all1_pure c pl x f caps p hc h hpl hL) (by simp) l hl) (.inr (by rfl)) ?_
  simp

end Go.Eng
