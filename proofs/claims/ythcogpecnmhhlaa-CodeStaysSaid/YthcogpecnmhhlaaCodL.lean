/- What the program's functions 72,71,73,45 compute (numbers of this seat): contracts, walked by the engine. -/
import Derived.Test.YthcogpecnmhhlaaEngU
import Derived.Test.YthcogpecnmhhlaaCodK
import Derived.Test.YthcogpecnmhhlaaProg
namespace Go.Eng
open Go Go.Proofs
set_option maxRecDepth 100000
set_option linter.all false
def c45 : Cd := (.seq (.reg [o1 1 (.box true 4 (.t 0)), o1 2 (.mv (.c (.bool false)))] false) (.seq (.reg [o1 3 (.fa 1 (.t 1)), o1 4 (.ld false 1 (.t 3)), o1 5 (.len (.t 4)), o1 6 (.bin .leq (.t 5) (cI 100)), o1 7 (.mv (.t 6)), og 8 7 true (.fa 2 (.t 1)), og 9 7 true (.ld false 1 (.t 8)), og 10 7 true (.len (.t 9)), og 11 7 true (.bin .leq (.t 10) (cI 1000)), o1 12 (.pick (.t 7) (.t 11) (.c (.bool false))), o1 13 (.mv (.t 12)), og 14 13 true (.fa 3 (.t 1)), og 15 13 true (.ld false 1 (.t 14)), og 16 13 true (.len (.t 15)), og 17 13 true (.bin .leq (.t 16) (cI 20000)), o1 18 (.pick (.t 13) (.t 17) (.c (.bool false))), o1 19 (.mv (.t 18)), og 20 19 true (.fa 1 (.t 1)), og 21 19 true (.ld false 1 (.t 20)), og 22 19 true (.call 70 [(.t 21), (.c (.fn 71 []))]), og 23 19 true (.not (.t 22)), o1 24 (.pick (.t 19) (.t 23) (.c (.bool false))), o1 25 (.mv (.t 24)), og 26 25 true (.fa 2 (.t 1)), og 27 25 true (.ld false 1 (.t 26)), og 28 25 true (.call 72 [(.t 27), (.c (.fn 73 []))]), og 29 25 true (.not (.t 28)), o1 30 (.pick (.t 25) (.t 29) (.c (.bool false))), o1 2 (.mv (.t 30))] false) .ret))
theorem tr45 : tr Try.prog (Try.f45.body.getD .skip) = some c45 := by kernel_rfl
def c71 : Cd := (.seq (.reg [o1 1 (.box true 2 (.t 0)), o1 2 (.mv (.c (.bool false)))] false) (.seq (.reg [o1 3 (.fa 1 (.t 1)), o1 4 (.ld false 1 (.t 3)), o1 5 (.len (.t 4)), o1 6 (.bin .gtr (.t 5) (cI 100)), o1 2 (.mv (.t 6))] false) .ret))
theorem tr71 : tr Try.prog (Try.f71.body.getD .skip) = some c71 := by kernel_rfl
def c72 : Cd := (.seq (.reg [o1 4 (.mv (.c (.bool false)))] false) (.seq (.reg [o1 5 (.mv (.t 0)), o1 6 (.mv (.t 1)), o1 7 (.call 62 [(.t 5), (.t 6)]), o1 8 (.bin .geq (.t 7) (cI 0)), o1 4 (.mv (.t 8))] false) .ret))
theorem tr72 : tr Try.prog (Try.f72.body.getD .skip) = some c72 := by kernel_rfl
def c73 : Cd := (.seq (.reg [o1 1 (.box true 4 (.t 0)), o1 2 (.mv (.c (.bool false)))] false) (.seq (.reg [o1 3 (.fa 1 (.t 1)), o1 4 (.ld false 1 (.t 3)), o1 5 (.len (.t 4)), o1 6 (.bin .gtr (.t 5) (cI 100)), o1 2 (.mv (.t 6))] false) .ret))
theorem tr73 : tr Try.prog (Try.f73.body.getD .skip) = some c73 := by kernel_rfl
set_option maxHeartbeats 2000000
theorem contains72_pure {X : Type} {enc : X → List T} (hz : ∀ x, (enc x).length = 4) {f : Nat} {caps : List T} {p : X → Bool} (a : List X) (h : ∀ x ∈ a, Pure Try.prog f (.agg (enc x) :: caps) (.bool (p x))) (hc : caps.length < 30) (ha : a.length ≤ 140737488355328) : Pure Try.prog 72 [.lst 4 (a.map enc), .fn f caps] (.bool (a.any p)) := by
  refine walk_of mo Try.func72 tr72 (rs := [.tmp 4]) (by rfl) (by rfl) ?_
  unfold c72
  simp
  refine call_t (ts := [.lst 4 (a.map enc), .fn f caps]) (i64 (firstAt p a 0)) (index62_pure hz a h hc ha) (by simp) ?_
  rcases firstAt_spec (p := p) (a := a) (k := 0) with ⟨h1, h2⟩ | ⟨i0, hi0, h1, h2, h3⟩
  · have : a.any p = false := List.any_eq_false.2 fun x hx => by simp [h2 x hx]
    simp [h1, this]
  · have : a.any p = true := List.any_eq_true.2 ⟨_, List.getElem_mem hi0, h2⟩
    simp [h1, this]
theorem counted1_pure (s : Str) : Pure Try.prog 71 [.agg s.enc] (.bool (decide (100 < s.L.length))) := by
  refine walk_of mo Try.func71 tr71 (rs := [.tmp 2]) (by rfl) (by rfl) ?_
  unfold c71
  by_cases h : 100 < s.L.length
  · have : (100 : Int) < s.L.length := by omega
    simp [Str.enc, h, this]
  · have : ¬ (100 : Int) < s.L.length := by omega
    simp [Str.enc, h, this]
theorem counted2_pure (s : Fun) : Pure Try.prog 73 [.agg s.enc] (.bool (decide (100 < s.Params.length))) := by
  refine walk_of mo Try.func73 tr73 (rs := [.tmp 2]) (by rfl) (by rfl) ?_
  unfold c73
  by_cases h : 100 < s.Params.length
  · have : (100 : Int) < s.Params.length := by omega
    simp [Fun.enc, h, this]
  · have : ¬ (100 : Int) < s.Params.length := by omega
    simp [Fun.enc, h, this]
def Cod.counted (c : Cod) : Bool := decide (c.Structs.length ≤ 100) && decide (c.Funcs.length ≤ 1000) && decide (c.L.length ≤ 20000) && !(c.Structs.any fun s => decide (100 < s.L.length)) && !(c.Funcs.any fun f => decide (100 < f.Params.length))
theorem str_len (x : Str) : x.enc.length = 2 := rfl
theorem fun_len (x : Fun) : x.enc.length = 4 := rfl
theorem counted_pure (c : Cod) : Pure Try.prog 45 [.agg c.enc] (.bool c.counted) := by
  refine walk_of mo Try.func45 tr45 (rs := [.tmp 2]) (by rfl) (by rfl) ?_
  unfold c45 Cod.counted
  by_cases h1 : c.Structs.length ≤ 100
  · have h1' : (c.Structs.length : Int) ≤ 100 := by omega
    by_cases h2 : c.Funcs.length ≤ 1000
    · have h2' : (c.Funcs.length : Int) ≤ 1000 := by omega
      by_cases h3 : c.L.length ≤ 20000
      · have h3' : (c.L.length : Int) ≤ 20000 := by omega
        simp [Cod.enc, h1, h1', h2, h2', h3, h3']
        refine call_t (ts := [.lst 2 (c.Structs.map Str.enc), .fn 71 []]) (.bool (c.Structs.any fun s => decide (100 < s.L.length))) (contains70_pure str_len c.Structs (fun x _ => counted1_pure x) (by simp) (by omega)) (by simp) ?_
        cases ha : c.Structs.any fun s => decide (100 < s.L.length) with
        | true => simp
        | false =>
          simp
          refine call_t (ts := [.lst 4 (c.Funcs.map Fun.enc), .fn 73 []]) (.bool (c.Funcs.any fun s => decide (100 < s.Params.length))) (contains72_pure fun_len c.Funcs (fun x _ => counted2_pure x) (by simp) (by omega)) (by simp) ?_
          simp
      · have h3' : ¬ (c.L.length : Int) ≤ 20000 := by omega
        simp [Cod.enc, h1, h1', h2, h2', h3, h3']
    · have h2' : ¬ (c.Funcs.length : Int) ≤ 1000 := by omega
      simp [Cod.enc, h1, h1', h2, h2']
  · have h1' : ¬ (c.Structs.length : Int) ≤ 100 := by omega
    simp [Cod.enc, h1, h1']

end Go.Eng
