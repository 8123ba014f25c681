/- What the program's functions 74 compute (numbers of this seat): contracts, walked by the engine. -/
import Derived.Test.YthcogpecnmhhlaaEngU
import Derived.Test.YthcogpecnmhhlaaCodH
import Derived.Test.YthcogpecnmhhlaaProg
namespace Go.Eng
open Go Go.Proofs
set_option maxRecDepth 100000
set_option linter.all false
def c74 : Cd := (.seq (.reg [o1 1 (.box true 8 (.t 0)), o1 2 (.mv (.c (.bool false)))] false) (.seq (.seq (.reg [o1 3 (.fa 0 (.t 1)), o1 4 (.ld false 1 (.t 3))] false) (.blk 0 (.seq (.seq (.reg [o1 9 (.bin .eql (.t 4) (cI 4)), o1 8 (.mv (.t 9))] false) (.cond (.t 8) .skip (.seq (.reg [o1 10 (.bin .eql (.t 4) (cI 10)), o1 8 (.mv (.t 10))] false) (.cond (.t 8) .skip (.seq (.reg [o1 11 (.bin .eql (.t 4) (cI 8)), o1 8 (.mv (.t 11))] false) (.cond (.t 8) .skip (.seq (.reg [o1 12 (.bin .eql (.t 4) (cI 9)), o1 8 (.mv (.t 12))] false) (.cond (.t 8) .skip (.reg [o1 13 (.bin .eql (.t 4) (cI 12)), o1 8 (.mv (.t 13))] false))))))))) (.cond (.t 8) .skip (.seq (.reg [o1 5 (.fa 2 (.t 1)), o1 6 (.ld false 1 (.t 5)), o1 7 (.bin .neq (.t 6) (.c (.str ⟨#[]⟩)))] false) (.cond (.t 7) (.seq (.reg [o1 2 (.mv (.c (.bool false)))] false) .ret) .skip)))))) (.seq (.seq (.reg [o1 14 (.fa 0 (.t 1)), o1 15 (.ld false 1 (.t 14))] false) (.blk 1 (.seq (.reg [o1 17 (.bin .eql (.t 15) (cI 1)), o1 16 (.mv (.t 17))] false) (.cond (.t 16) (.seq (.reg [o1 18 (.fa 1 (.t 1)), o1 19 (.ld false 1 (.t 18)), o1 20 (.call 95 [(.t 19)]), o1 21 (.mv (.t 20)), og 22 21 true (.fa 6 (.t 1)), og 23 21 true (.ld false 1 (.t 22)), og 24 21 true (.len (.t 23)), og 25 21 true (.fa 7 (.t 1)), og 26 21 true (.ld false 1 (.t 25)), og 27 21 true (.len (.t 26)), og 28 21 true (.bin .add (.t 24) (.t 27)), og 29 21 true (.bin .eql (.t 28) (cI 0)), o1 30 (.pick (.t 21) (.t 29) (.c (.bool false))), o1 2 (.mv (.t 30))] false) .ret) (.seq (.reg [o1 32 (.bin .eql (.t 15) (cI 2)), o1 31 (.mv (.t 32))] false) (.cond (.t 31) (.seq (.reg [o1 33 (.fa 1 (.t 1)), o1 34 (.ld false 1 (.t 33)), o1 35 (.bin .eql (.t 34) (cI 0)), o1 36 (.mv (.t 35)), og 37 36 false (.fa 1 (.t 1)), og 38 36 false (.ld false 1 (.t 37)), og 39 36 false (.bin .eql (.t 38) (cI 1)), o1 40 (.pick (.t 36) (.c (.bool true)) (.t 39)), o1 41 (.mv (.t 40)), og 42 41 true (.fa 6 (.t 1)), og 43 41 true (.ld false 1 (.t 42)), og 44 41 true (.len (.t 43)), og 45 41 true (.fa 7 (.t 1)), og 46 41 true (.ld false 1 (.t 45)), og 47 41 true (.len (.t 46)), og 48 41 true (.bin .add (.t 44) (.t 47)), og 49 41 true (.bin .eql (.t 48) (cI 0)), o1 50 (.pick (.t 41) (.t 49) (.c (.bool false))), o1 2 (.mv (.t 50))] false) .ret) (.seq (.reg [o1 52 (.bin .eql (.t 15) (cI 7)), o1 51 (.mv (.t 52))] false) (.cond (.t 51) (.seq (.reg [o1 53 (.fa 1 (.t 1)), o1 54 (.ld false 1 (.t 53)), o1 55 (.bin .geq (.t 54) (cI 1)), o1 56 (.mv (.t 55)), og 57 56 true (.fa 1 (.t 1)), og 58 56 true (.ld false 1 (.t 57)), og 59 56 true (.bin .leq (.t 58) (cI 9)), o1 60 (.pick (.t 56) (.t 59) (.c (.bool false))), o1 61 (.mv (.t 60)), og 62 61 true (.fa 6 (.t 1)), og 63 61 true (.ld false 1 (.t 62)), og 64 61 true (.len (.t 63)), og 65 61 true (.fa 7 (.t 1)), og 66 61 true (.ld false 1 (.t 65)), og 67 61 true (.len (.t 66)), og 68 61 true (.bin .add (.t 64) (.t 67)), og 69 61 true (.bin .eql (.t 68) (cI 0)), o1 70 (.pick (.t 61) (.t 69) (.c (.bool false))), o1 2 (.mv (.t 70))] false) .ret) (.seq (.seq (.reg [o1 72 (.bin .eql (.t 15) (cI 8)), o1 71 (.mv (.t 72))] false) (.cond (.t 71) .skip (.reg [o1 73 (.bin .eql (.t 15) (cI 11)), o1 71 (.mv (.t 73))] false))) (.cond (.t 71) (.seq (.reg [o1 74 (.fa 1 (.t 1)), o1 75 (.ld false 1 (.t 74)), o1 76 (.bin .eql (.t 75) (cI 0)), o1 77 (.mv (.t 76)), og 78 77 true (.fa 7 (.t 1)), og 79 77 true (.ld false 1 (.t 78)), og 80 77 true (.len (.t 79)), og 81 77 true (.bin .eql (.t 80) (cI 0)), o1 82 (.pick (.t 77) (.t 81) (.c (.bool false))), o1 2 (.mv (.t 82))] false) .ret) (.seq (.reg [o1 84 (.bin .eql (.t 15) (cI 16)), o1 83 (.mv (.t 84))] false) (.cond (.t 83) (.seq (.reg [o1 85 (.fa 1 (.t 1)), o1 86 (.ld false 1 (.t 85)), o1 87 (.bin .eql (.t 86) (cI 0)), o1 88 (.mv (.t 87)), og 89 88 true (.fa 6 (.t 1)), og 90 88 true (.ld false 1 (.t 89)), og 91 88 true (.len (.t 90)), og 92 88 true (.bin .eql (.t 91) (cI 0)), o1 93 (.pick (.t 88) (.t 92) (.c (.bool false))), o1 2 (.mv (.t 93))] false) .ret) .skip)))))))))))) (.seq (.reg [o1 94 (.fa 1 (.t 1)), o1 95 (.ld false 1 (.t 94)), o1 96 (.bin .eql (.t 95) (cI 0)), o1 97 (.mv (.t 96)), og 98 97 true (.fa 6 (.t 1)), og 99 97 true (.ld false 1 (.t 98)), og 100 97 true (.len (.t 99)), og 101 97 true (.fa 7 (.t 1)), og 102 97 true (.ld false 1 (.t 101)), og 103 97 true (.len (.t 102)), og 104 97 true (.bin .add (.t 100) (.t 103)), og 105 97 true (.bin .eql (.t 104) (cI 0)), o1 106 (.pick (.t 97) (.t 105) (.c (.bool false))), o1 2 (.mv (.t 106))] false) .ret))))
theorem tr74 : tr Try.prog (Try.f74.body.getD .skip) = some c74 := by kernel_rfl
set_option maxHeartbeats 2000000
def Nod.named (n : Nod) : Bool := decide (n.Kind = 4 ∨ n.Kind = 10 ∨ n.Kind = 8 ∨ n.Kind = 9 ∨ n.Kind = 12) || n.Name.toList.isEmpty
def Nod.plain (n : Nod) : Bool := n.named &&
  (if n.Kind = 1 then numB n.N && decide (n.L.length + n.Cases.length = 0)
   else if n.Kind = 2 then decide (n.N = 0 ∨ n.N = 1) && decide (n.L.length + n.Cases.length = 0)
   else if n.Kind = 7 then decide (1 ≤ n.N ∧ n.N ≤ 9) && decide (n.L.length + n.Cases.length = 0)
   else if n.Kind = 8 ∨ n.Kind = 11 then decide (n.N = 0) && decide (n.Cases.length = 0)
   else if n.Kind = 16 then decide (n.N = 0) && decide (n.L.length = 0)
   else decide (n.N = 0) && decide (n.L.length + n.Cases.length = 0))
theorem plain_pure (n : Nod) (h1 : n.L.length ≤ 1000000000) (h2 : n.Cases.length ≤ 1000000000) : Pure Try.prog 74 [.agg n.enc] (.bool n.plain) := by
  refine walk_of mo Try.func74 tr74 (rs := [.tmp 2]) (by rfl) (by rfl) ?_
  unfold c74
  have hw : wr .i64 ((n.L.length : Int) + n.Cases.length) = n.L.length + n.Cases.length := wr_id (by omega) (by omega)
  have hs : ((n.L.length : Int) + n.Cases.length = 0) ↔ n.L.length + n.Cases.length = 0 := by omega
  simp [Nod.enc, ints]
  cases cn : n.Name.toList.isEmpty with
  | false =>
    by_cases nk : n.Kind = 4 ∨ n.Kind = 10 ∨ n.Kind = 8 ∨ n.Kind = 9 ∨ n.Kind = 12
    · rcases nk with k | k | k | k | k <;> by_cases c0 : n.N = 0 <;> simp [k, cn, c0, hw, hs, Nod.plain, Nod.named]
    · have e1 : ¬ n.Kind = 4 := fun e => nk (by simp [e])
      have e2 : ¬ n.Kind = 10 := fun e => nk (by simp [e])
      have e3 : ¬ n.Kind = 8 := fun e => nk (by simp [e])
      have e4 : ¬ n.Kind = 9 := fun e => nk (by simp [e])
      have e5 : ¬ n.Kind = 12 := fun e => nk (by simp [e])
      simp [e1, e2, e3, e4, e5, cn, Nod.plain, Nod.named]
  | true =>
    have hnm : n.named = true := by simp [Nod.named, cn]
    by_cases k1 : n.Kind = 1
    · simp [k1, cn]
      refine call_t (ts := [i64 n.N]) _ (num_pure n.N) (by simp) ?_
      cases hb : numB n.N with
      | true =>
        have : (0 ≤ n.N ∧ n.N ≤ 2147483647) := by simpa [numB] using hb
        simp [this, hw, hs, Nod.plain, hnm, k1, hb]
      | false =>
        have : ¬ (0 ≤ n.N ∧ n.N ≤ 2147483647) := by simpa [numB] using hb
        simp [this, Nod.plain, k1, hb]
    · by_cases k2 : n.Kind = 2
      · by_cases c0 : n.N = 0
        · simp [k2, cn, c0, hw, hs, Nod.plain, hnm]
        · by_cases c1 : n.N = 1 <;> simp [k2, cn, c0, c1, hw, hs, Nod.plain, hnm]
      · by_cases k7 : n.Kind = 7
        · by_cases c0 : 1 ≤ n.N <;> by_cases c1 : n.N ≤ 9 <;> simp [k7, cn, c0, c1, hw, hs, Nod.plain, hnm]
        · by_cases c0 : n.N = 0
          · by_cases k8 : n.Kind = 8
            · simp [k8, cn, c0, hw, hs, Nod.plain, hnm]
            · by_cases k11 : n.Kind = 11
              · simp [k11, cn, c0, hw, hs, Nod.plain, hnm]
              · by_cases k16 : n.Kind = 16
                · simp [k16, cn, c0, hw, hs, Nod.plain, hnm]
                · by_cases k4 : n.Kind = 4 <;> by_cases k10 : n.Kind = 10 <;> by_cases k9 : n.Kind = 9 <;> by_cases k12 : n.Kind = 12 <;> simp [k1, k2, k7, k8, k11, k16, k4, k10, k9, k12, cn, c0, hw, hs, Nod.plain, hnm]
          · by_cases k8 : n.Kind = 8
            · simp [k8, cn, c0, Nod.plain, hnm]
            · by_cases k11 : n.Kind = 11
              · simp [k11, cn, c0, Nod.plain, hnm]
              · by_cases k16 : n.Kind = 16
                · simp [k16, cn, c0, Nod.plain, hnm]
                · by_cases k4 : n.Kind = 4 <;> by_cases k10 : n.Kind = 10 <;> by_cases k9 : n.Kind = 9 <;> by_cases k12 : n.Kind = 12 <;> simp [k1, k2, k7, k8, k11, k16, k4, k10, k9, k12, cn, c0, Nod.plain, hnm]

end Go.Eng
