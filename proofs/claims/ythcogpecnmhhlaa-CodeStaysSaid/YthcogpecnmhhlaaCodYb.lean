/- What the program's functions 4 compute (numbers of this seat): contracts, walked by the engine. -/
import Derived.Test.YthcogpecnmhhlaaEngU
import Derived.Test.YthcogpecnmhhlaaCodYa
import Derived.Test.YthcogpecnmhhlaaProg
namespace Go.Eng
open Go Go.Proofs
set_option maxRecDepth 100000
set_option linter.all false
def c4 : Cd := (.seq (.reg [o1 1 (.box true 4 (.t 0)), o1 2 (.mv (.c (.bool false)))] false) (.seq (.seq (.reg [o1 7 (.call 13 []), o1 8 (.not (.t 7))] false) (.cond (.t 8) (.seq (.reg [o1 2 (.mv (.c (.bool false)))] false) .ret) .skip)) (.seq (.reg [o1 9 (.ld true 4 (.t 1)), o1 10 (.call 7 [(.t 9)]), o0 (.st 4 (.t 1) (.t 10))] false) (.seq (.reg [o1 12 (.ld true 4 (.t 1)), o1 13 (.call 8 [(.t 12)]), o1 11 (.mv (.t 13)), o1 14 (.ext 0 (.t 11)), o1 15 (.ext 1 (.t 11)), o1 3 (.new [.str ByteArray.empty, .nils, .nils, .nils]), o0 (.st 4 (.t 3) (.t 14)), o1 4 (.mv (.t 15))] false) (.seq (.seq (.reg [o1 16 (.mv (.t 4)), o1 17 (.bin .neq (.t 16) (cI 0))] false) (.cond (.t 17) (.seq (.reg [o1 18 (.fa 3 (.t 3)), o1 19 (.ld false 1 (.t 18)), o1 20 (.len (.t 19)), o1 21 (.bin .eql (.t 20) (cI 0)), o1 2 (.mv (.t 21))] false) .ret) .skip)) (.seq (.reg [o1 23 (.ld true 4 (.t 3)), o1 24 (.call 8 [(.t 23)]), o1 22 (.mv (.t 24)), o1 25 (.ext 0 (.t 22)), o1 26 (.ext 1 (.t 22)), o1 5 (.new [.str ByteArray.empty, .nils, .nils, .nils]), o0 (.st 4 (.t 5) (.t 25)), o1 6 (.mv (.t 26))] false) (.seq (.reg [o1 27 (.mv (.t 6)), o1 28 (.bin .eql (.t 27) (cI 0)), o1 29 (.mv (.t 28)), og 30 29 true (.ld true 4 (.t 3)), og 31 29 true (.ld true 4 (.t 5)), og 32 29 true (.call 10 [(.t 30), (.t 31)]), o1 33 (.pick (.t 29) (.t 32) (.c (.bool false))), o1 34 (.mv (.t 33)), og 35 34 true (.ld true 4 (.t 1)), og 36 34 true (.ld true 4 (.t 3)), og 37 34 true (.call 12 [(.t 35), (.t 36)]), o1 38 (.pick (.t 34) (.t 37) (.c (.bool false))), o1 39 (.mv (.t 38)), og 40 39 true (.fa 3 (.t 3)), og 41 39 true (.ld false 1 (.t 40)), og 42 39 true (.len (.t 41)), og 43 39 true (.fa 3 (.t 1)), og 44 39 true (.ld false 1 (.t 43)), og 45 39 true (.len (.t 44)), og 46 39 true (.bin .eql (.t 42) (.t 45)), o1 47 (.pick (.t 39) (.t 46) (.c (.bool false))), o1 2 (.mv (.t 47))] false) .ret)))))))
theorem tr4 : tr Try.prog (Try.f4.body.getD .skip) = some c4 := by kernel_rfl
set_option maxHeartbeats 2000000
attribute [local simp] cut spl one fillT
theorem norm_ok (c : Cod) : (c.few 300).norm.Ok := by
  obtain ⟨_, _, _, _, a, b⟩ := norm_bounds c
  exact ⟨a, fun n hn => ⟨(b n hn).1, (b n hn).2.1, fun x hx => by have := (b n hn).2.2 x hx; omega⟩⟩
theorem norm_norm {c : Cod} (h : c.may = 0) : c.norm.may = 0 ∧ c.norm.norm = c.norm ∧ c.norm.L.length = c.L.length := by
  have e : c.norm = c.normed := by rw [Cod.norm, if_pos h]
  rw [e]
  have h2 := may_normed h
  exact ⟨h2, by rw [Cod.norm, if_pos h2, normed_idem (may_tree h)], normed_len c⟩
theorem stays_pure (a : Cod) (ha : a.Fit) : Pure Try.prog 4 [.agg a.enc] (.bool true) := by
  refine walk_of mo Try.func4 tr4 (rs := [.tmp 2]) (by rfl) (by rfl) ?_
  unfold c4
  have fa := few_pure a ha
  have na := norm_pure _ (few_ok a) (few_ok2 a)
  obtain ⟨b1, b2, b3, b4, b5, b6⟩ := norm_bounds a
  have nx := norm_pure _ (norm_ok a) (fun n hn => (b6 n hn).2.2)
  have rs := fun y => rsameC_pure (a.few 300).norm y b1 b2 b3 b4 b5 (fun n hn => by
    obtain ⟨x1, x2, x3⟩ := b6 n hn
    exact ⟨by omega, by omega, fun x hx => by have := x3 x hx; omega⟩)
  have sx := same_pure _ _ (few_ok a) (few_ok2 a) (norm_ok a) (fun n hn => (b6 n hn).2.2)
  have hnone : (a.few 300).may ≠ 0 → (a.few 300).norm = Cod.none := fun h => by rw [Cod.norm, if_neg h]
  have hidem : (a.few 300).may = 0 → _ := fun h => norm_norm h
  have hsn : (a.few 300).sameN (a.few 300).norm = (decide ((a.few 300).may = 0) && decide ((a.few 300).norm.may = 0) && (a.few 300).norm.same (a.few 300).norm.norm) := rfl
  rw [hsn] at sx
  clear hsn b1 b2 b3 b4 b5 b6
  simp [Cod.enc]
  refine call_t (ts := []) _ works_pure (by simp) ?_
  simp [Cod.enc]
  refine call_t (ts := [.agg a.enc]) _ fa (by simp [Cod.enc]) ?_
  simp [Cod.enc]
  refine call_t (ts := [.agg (a.few 300).enc]) _ na (by simp [Cod.enc]) ?_
  by_cases hm : (a.few 300).may = 0
  · obtain ⟨i1, i2, i3⟩ := hidem hm
    rw [i1, i2] at nx
    rw [hm, i1, i2] at sx
    rw [hm]
    generalize (a.few 300).norm = X at *
    generalize hA : a.few 300 = A at *
    simp [Cod.enc]
    refine call_t (ts := [.agg X.enc]) _ nx (by simp [Cod.enc]) ?_
    simp [Cod.enc]
    refine call_t (ts := [.agg X.enc, .agg X.enc]) _ (rs X) (by simp [Cod.enc]) ?_
    simp [Cod_refl, Cod.enc]
    refine call_t (ts := [.agg A.enc, .agg X.enc]) _ sx (by simp [Cod.enc]) ?_
    simp [Cod_refl, Cod.enc, i3]
  · have hX := hnone hm
    rw [hX]
    simp [hm, Cod.none, Cod.enc]

end Go.Eng
