/- What the program's functions 47 compute (numbers of this seat): contracts, walked by the engine. -/
import Derived.Test.YthcogpecnmhhlaaEngU
import Derived.Test.YthcogpecnmhhlaaCodB
import Derived.Test.YthcogpecnmhhlaaProg
namespace Go.Eng
open Go Go.Proofs
set_option maxRecDepth 100000
set_option linter.all false
def c47 : Cd := (.seq (.reg [o1 1 (.box true 8 (.t 0)), o1 2 (.mv (.c (.nils)))] false) (.seq (.reg [o1 6 (.fa 3 (.t 1)), o1 7 (.ld false 1 (.t 6)), o1 8 (.fa 4 (.t 1)), o1 9 (.ld false 1 (.t 8)), o1 10 (.fa 5 (.t 1)), o1 11 (.ld false 1 (.t 10)), o1 12 (.bs 3 1 3 [(.t 7), (.t 9), (.t 11)]), o1 13 (.call 85 [(.t 12), (.c (.fn 86 []))]), o1 3 (.mv (.t 13))] false) (.seq (.reg [o1 14 (.mv (.t 3)), o1 15 (.fa 6 (.t 1)), o1 16 (.ld false 1 (.t 15)), o1 17 (.app 3 1 8 (.t 14) (.t 16)), o1 3 (.mv (.t 17))] false) (.seq (.seq (.reg [o1 18 (.fa 7 (.t 1)), o1 19 (.ld false 1 (.t 18)), o1 20 (.len (.t 19)), o1 21 (.mv (cI 0))] false) (.blk 0 (.loop (.seq (.reg [o1 22 (.bin .lss (.t 21) (.t 20))] false) (.seq (.cond (.t 22) .skip (.exit 0)) (.seq (.blk 1 (.seq (.reg [o1 23 (.ia 2 (.t 19) (.t 21)), o1 24 (.ld true 2 (.t 23)), o1 5 (.new [.nils, .int .i64 0]), o0 (.st 2 (.t 5) (.t 24))] false) (.reg [o1 25 (.mv (.t 3)), o1 26 (.fa 1 (.t 5)), o1 27 (.ld false 1 (.t 26)), o1 28 (.bs 3 1 1 [(.t 27)]), o1 29 (.app 3 1 8 (.t 25) (.t 28)), o1 3 (.mv (.t 29))] false))) (.reg [o1 30 (.bin .add (.t 21) (cI 1)), o1 21 (.mv (.t 30))] false))))))) (.seq (.reg [o1 31 (.mv (.t 3)), o1 2 (.mv (.t 31))] false) .ret)))))
theorem tr47 : tr Try.prog (Try.f47.body.getD .skip) = some c47 := by kernel_rfl
set_option maxHeartbeats 1000000
structure Cas where
  L : List Int
  Body : Int
structure Nod where
  Kind : Int
  N : Int
  Name : ByteArray
  A : Int
  B : Int
  C : Int
  L : List Int
  Cases : List Cas
def Cas.enc (c : Cas) : List T := [ints c.L, i64 c.Body]
def Nod.enc (n : Nod) : List T := [i64 n.Kind, i64 n.N, .str n.Name, i64 n.A, i64 n.B, i64 n.C, ints n.L, .lst 2 (n.Cases.map Cas.enc)]
def Nod.kids (n : Nod) : List Int := ([n.A, n.B, n.C].filter fun x => !decide (x = -1)) ++ n.L ++ n.Cases.map (·.Body)
theorem kids_pure (n : Nod) (h1 : n.L.length ≤ 1000000000) (h2 : n.Cases.length ≤ 1000000000) : Pure Try.prog 47 [.agg n.enc] (ints n.kids) := by
  refine walk_of mo Try.func47 tr47 (rs := [.tmp 2]) (by rfl) (by rfl) ?_
  unfold c47
  simp [Nod.enc]
  refine eff_intro [] (fun n => if n = far then 12 else n) (del_eff (fun x => decide (x = -1)) 86 [] (by simp) kids1_pure [n.A, n.B, n.C] (by simp)) (by simp) rfl (by simp) ?_ ?_ ?_ ?_ ?_ ?_ ?_
  · intro m hm; simp; intro e; subst e; exact absurd hm (by decide)
  · simp [V.renL, V.ren]
  · simp [row]
  · simp
  · simp
  · simp
  have hF3 : ([n.A, n.B, n.C].filter fun x => !decide (x = -1)).length ≤ 3 := List.length_filter_le _ _
  unfold Nod.kids
  generalize ([n.A, n.B, n.C].filter fun x => !decide (x = -1)) = F at *
  simp [renHp, dropL, ints]
  refine req_intro (by omega) ?_
  simp
  refine loop_up n.Cases.length (fun i => ⟨[(3, .slc 29 1 0 (F.length + n.L.length + i)), (19, .t (.lst 2 (n.Cases.map Cas.enc))), (20, .t (i64 n.Cases.length)), (21, .t (i64 i))], [(29, .row 3 1 (row (F ++ n.L ++ (n.Cases.take i).map (·.Body))))]⟩) (fun _ => True) (to 29 17) ?_ trivial ?_
  · simp [row]
    intro m hm
    exact to_far (by decide) m hm
  · intro i hi _
    by_cases hl : i < n.Cases.length
    · simp [hl, row, Cas.enc, ints, cut, spl, one]
      refine req_intro (by omega) ?_
      simp
      rw [wr_id (by omega) (by omega)]
      refine up_next same hl trivial ?_
      simp [row]
      refine ⟨by omega, ?_⟩
      rw [List.take_of_length_le (by simp; omega), List.take_add_one, List.getElem?_map, List.getElem?_eq_getElem hl]
      simp
    · have : i = n.Cases.length := by omega
      subst this
      simp [row, retR_v, cut, Nat.add_assoc, List.take_of_length_le]

end Go.Eng
