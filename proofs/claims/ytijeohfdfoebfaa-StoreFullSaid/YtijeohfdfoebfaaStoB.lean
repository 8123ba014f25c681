/- What the program's functions 5 compute (numbers of this seat): contracts, walked by the engine. -/
import Derived.Test.YtijeohfdfoebfaaEngU
import Derived.Test.YtijeohfdfoebfaaStoA
import Derived.Test.YtijeohfdfoebfaaProg
namespace Go.Eng
open Go Go.Proofs
set_option maxRecDepth 100000
set_option linter.all false
def c5 : Cd := (.seq (.reg [o1 2 (.mv (.c (.bool false)))] false) (.seq (.seq (.reg [o1 14 (.call 6 []), o1 15 (.not (.t 14))] false) (.cond (.t 15) (.seq (.reg [o1 2 (.mv (.c (.bool false)))] false) .ret) .skip)) (.seq (.reg [o1 3 (.mv (.c (.nilp)))] false) (.seq (.reg [o1 17 (.mv (.t 3)), o1 18 (.call 8 [(.t 17), (cI 0), (.c (.nils))]), o1 16 (.mv (.t 18)), o1 19 (.ext 0 (.t 16)), o1 20 (.ext 1 (.t 16)), o1 4 (.mv (.t 19)), o1 5 (.mv (.t 20))] false) (.seq (.reg [o1 22 (.mv (.t 3)), o1 23 (.call 12 [(.t 22), (cI 0), (cI 0)]), o1 21 (.mv (.t 23)), o1 24 (.ext 0 (.t 21)), o1 25 (.ext 1 (.t 21)), o1 6 (.new [.int .i64 0, .int .i64 0]), o0 (.st 2 (.t 6) (.t 24)), o1 7 (.mv (.t 25))] false) (.seq (.seq (.reg [o1 26 (.mv (.t 5)), o1 27 (.bin .neq (.t 26) (cI 8)), o1 28 (.mv (.t 27)), og 29 28 false (.mv (.t 7)), og 30 28 false (.bin .neq (.t 29) (cI 3)), o1 31 (.pick (.t 28) (.c (.bool true)) (.t 30)), o1 32 (.mv (.t 31)), og 33 32 false (.mv (.t 3)), og 34 32 false (.bld [.int .i64 0, .int .i64 0] []), og 35 32 false (.call 11 [(.t 33), (cI 0), (cI 0), (.t 34)]), og 36 32 false (.bin .neq (.t 35) (cI 3)), o1 37 (.pick (.t 32) (.c (.bool true)) (.t 36)), o1 38 (.mv (.t 37)), og 39 38 false (.mv (.t 3)), og 40 38 false (.call 21 [(.t 39)]), og 41 38 false (.bin .neq (.t 40) (cI 0)), o1 42 (.pick (.t 38) (.c (.bool true)) (.t 41)), o1 43 (.mv (.t 42)), og 44 43 false (.mv (.t 3)), og 45 43 false (.call 10 [(.t 44)]), og 46 43 false (.len (.t 45)), og 47 43 false (.bin .neq (.t 46) (cI 0)), o1 48 (.pick (.t 43) (.c (.bool true)) (.t 47)), o1 49 (.mv (.t 48)), og 50 49 false (.mv (.t 3)), og 51 49 false (.call 20 [(.t 50)]), og 52 49 false (.isnil true 0 (.t 51)), o1 53 (.pick (.t 49) (.c (.bool true)) (.t 52))] false) (.cond (.t 53) (.seq (.reg [o1 2 (.mv (.c (.bool false)))] false) .ret) .skip)) (.seq (.reg [o1 54 (.call 7 []), o1 8 (.mv (.t 54))] false) (.seq (.seq (.reg [o1 9 (.mv (cI 0))] false) (.blk 0 (.loop (.seq (.seq (.reg [o1 55 (.mv (.t 9)), o1 56 (.bin .lss (.t 55) (cI 100000))] false) (.cond (.t 56) .skip (.exit 0))) (.seq (.blk 1 (.seq (.reg [o1 60 (.mv (.t 8)), o1 61 (.call 8 [(.t 60), (cI 0), (.c (.nils))]), o1 59 (.mv (.t 61)), o1 62 (.ext 0 (.t 59)), o1 63 (.ext 1 (.t 59)), o1 10 (.mv (.t 62)), o1 11 (.mv (.t 63))] false) (.seq (.reg [o1 64 (.mv (.t 10)), o1 65 (.mv (.t 9)), o1 66 (.bin .neq (.t 64) (.t 65)), o1 67 (.mv (.t 66)), og 68 67 false (.mv (.t 11)), og 69 67 false (.bin .neq (.t 68) (cI 0)), o1 70 (.pick (.t 67) (.c (.bool true)) (.t 69))] false) (.cond (.t 70) (.seq (.reg [o1 2 (.mv (.c (.bool false)))] false) .ret) .skip)))) (.reg [o1 57 (.mv (.t 9)), o1 58 (.bin .add (.t 57) (cI 1)), o1 9 (.mv (.t 58))] false)))))) (.seq (.reg [o1 72 (.mv (.t 8)), o1 73 (.mv (.t 0)), o1 74 (.cvt .i64 (.t 73)), o1 75 (.call 8 [(.t 72), (.t 74), (.c (.nils))]), o1 71 (.mv (.t 75)), o1 76 (.ext 0 (.t 71)), o1 77 (.ext 1 (.t 71)), o1 12 (.mv (.t 76)), o1 13 (.mv (.t 77))] false) (.seq (.reg [o1 78 (.mv (.t 13)), o1 79 (.bin .eql (.t 78) (cI 8)), o1 80 (.mv (.t 79)), og 81 80 true (.mv (.t 8)), og 82 80 true (.call 21 [(.t 81)]), og 83 80 true (.bin .eql (.t 82) (cI 100000)), o1 84 (.pick (.t 80) (.t 83) (.c (.bool false))), o1 2 (.mv (.t 84))] false) .ret))))))))))
theorem tr5 : tr Try.prog (Try.f5.body.getD .skip) = some c5 := by kernel_rfl
set_option maxHeartbeats 2000000
attribute [local simp] cut spl one fillT
def sSt : Nat → Hp
  | 0 => [(500, .box [.t .nils, .t .nils, .t .nils])]
  | k + 1 => sRun (k + 1) 500 501 502 (List.replicate (k + 1) 0) (List.replicate (k + 1) 0)
theorem full_pure (more : Int) : Pure Try.prog 5 [.int .u8 more] (.bool true) := by
  refine walk_of mo Try.func5 tr5 (rs := [.tmp 2]) (by rfl) (by rfl) ?_
  unfold c5
  simp
  refine call_t (ts := []) _ works_pure (by simp) ?_
  simp
  refine call_t (ts := [.nilp, i64 0, .nils]) _ (make_nil 0) (by simp) ?_
  simp
  refine call_t (ts := [.nilp, i64 0, i64 0]) _ sget_nil (by simp) ?_
  simp
  refine call_t (ts := [.nilp, i64 0, i64 0, .agg [i64 0, i64 0]]) _ (sset_nil [i64 0, i64 0] rfl) (by simp) ?_
  simp
  refine call_t (ts := [.nilp]) _ len_nil (by simp) ?_
  simp
  refine call_t (ts := [.nilp]) _ all_nil (by simp) ?_
  simp
  refine call_t (ts := [.nilp]) _ fork_nil (by simp) ?_
  simp
  refine eff_intro [500] same (new_eff 500 (by decide)) (by simp) rfl (by decide) (by simp) (by simp) ?_ ?_ ?_ ?_ ?_
  · simp
  · simp
  · simp
  · simp
  · simp [renHp, dropL]
    obtain ⟨N, hN⟩ : ∃ N : Nat, (N : Int) = 100000 := ⟨100000, by omega⟩
    refine loop_up N (fun i => ⟨[(0, .t (.int .u8 more)), (8, .ptr 500 0 0), (9, .t (i64 i))], sSt i⟩) (fun _ => True) same ?_ trivial ?_
    · simp [sSt]
    · intro i hi _
      cases Nat.lt_or_ge i N with
      | inl hil =>
        have hil2 : (i : Int) < 100000 := by omega
        have hw : wr .i64 ((i : Int) + 1) = i + 1 := wr_id (by omega) (by omega)
        cases i with
        | zero =>
          simp [sSt]
          refine eff_intro [501, 502] (to far 500) (make_first 0 501 502 (by decide) (by decide) (by decide)) (by simp) rfl (by decide) (fun n hn => to_ne (by omega)) ?_ ?_ ?_ ?_ ?_ ?_
          · simp [to]
          · simp [sNil, to]
          · simp [sNil]
          · simp [sRun, to, far]
          · simp [sRun, far]
          · simp [sRun, sNil, renHp, dropL, to, far]
            rw [wr_id (n := 1) (by omega) (by omega)]
            refine up_next same (by omega) trivial ?_
            simp [sSt, sRun, row]
        | succ i =>
          have hil3 : (i : Int) + 1 < 100000 := by omega
          simp [sSt, hil3]
          refine eff_intro [503, 504] (three far 500 (far + 1) 501 (far + 2) 502) (make_next 0 (List.replicate (i + 1) 0) (List.replicate (i + 1) 0) (i + 1) (by simp) (by simp) (by omega) 503 504 (by decide) (by decide) (by decide)) (by simp) rfl (by decide) ?_ ?_ ?_ ?_ ?_ ?_ ?_
          · intro n hn; rw [three, if_neg (by omega), if_neg (by omega), if_neg (by omega)]
          · simp [three]
          · simp [sRun, three, far]
          · simp [sRun, three, far]
          · simp [sRun, three, far]
          · simp [sRun, far]
          · simp [sRun, renHp, dropL, three, far]
            have hw2 : wr .i64 ((i : Int) + 1 + 1) = i + 1 + 1 := wr_id (by omega) (by omega)
            rw [hw2]
            refine up_next (two 501 503 502 504) (by omega) trivial ?_
            have e1 : List.replicate (i + 1) (0 : Int) ++ [0] = List.replicate (i + 1 + 1) 0 := by rw [List.replicate_succ' (n := i + 1)]
            simp [e1, two]
            intro n hn
            have hn' : 1000 ≤ n := hn
            rw [if_neg (by omega), if_neg (by omega)]
      | inr hil =>
        have hi2 : (i : Int) = 100000 := by omega
        cases i with
        | zero => omega
        | succ m =>
          have hi3 : (m : Int) + 1 = 100000 := by omega
          simp [sSt, hi3]
          refine eff_intro [] (three far 500 (far + 1) 501 (far + 2) 502) (make_full (wr .i64 more) (List.replicate (m + 1) 0) (List.replicate (m + 1) 0) (m + 1) hi2 (by simp)) (by simp) rfl (by simp) ?_ ?_ ?_ ?_ ?_ ?_ ?_
          · intro n hn; rw [three, if_neg (by omega), if_neg (by omega), if_neg (by omega)]
          · simp [three]
          · simp [sRun, three, far]
          · simp [sRun, three, far]
          · simp [sRun, three, far]
          · simp [sRun, far]
          · simp [sRun, renHp, dropL, three, far]
            refine eff_intro [] (three far 500 (far + 1) 501 (far + 2) 502) (len_eff (m + 1) (List.replicate (m + 1) 0) (List.replicate (m + 1) 0) (by simp)) (by simp) rfl (by simp) ?_ ?_ ?_ ?_ ?_ ?_ ?_
            · intro n hn; rw [three, if_neg (by omega), if_neg (by omega), if_neg (by omega)]
            · simp [three]
            · simp [sRun, three, far]
            · simp [sRun, three, far]
            · simp [sRun, three, far]
            · simp [sRun, far]
            · simp [sRun, renHp, dropL, three, far, hi3, retR_v]

end Go.Eng
