/- What the program's functions 18 compute (numbers of this seat): contracts, walked by the engine. -/
import Derived.Test.YthcogpecnmhhlaaEngU
import Derived.Test.YthcogpecnmhhlaaCodU
import Derived.Test.YthcogpecnmhhlaaProg
namespace Go.Eng
open Go Go.Proofs
set_option maxRecDepth 100000
set_option linter.all false
def c18 : Cd := (.seq (.reg [o1 2 (.box true 4 (.t 0)), o1 4 (.new [.str ByteArray.empty, .nils, .nils, .nils])] false) (.seq (.reg [o1 15 (.fa 0 (.t 2)), o1 16 (.ld false 1 (.t 15)), o1 17 (.fa 0 (.t 2)), o1 18 (.ld false 1 (.t 17)), o1 19 (.lens (.t 18)), o1 20 (.mn (.t 19) (cI 50)), o1 21 (.sls (.t 16) none (some (.t 20))), o1 22 (.bld [.str ByteArray.empty, .nils, .nils, .nils] [(0, 1, (.t 21))]), o1 5 (.new [.str ByteArray.empty, .nils, .nils, .nils]), o0 (.st 4 (.t 5) (.t 22))] false) (.seq (.seq (.reg [o1 6 (.mv (cI 0))] false) (.blk 0 (.loop (.seq (.seq (.reg [o1 23 (.mv (.t 6)), o1 24 (.fa 1 (.t 2)), o1 25 (.ld false 1 (.t 24)), o1 26 (.len (.t 25)), o1 27 (.bin .lss (.t 23) (.t 26)), o1 28 (.mv (.t 27)), og 29 28 true (.mv (.t 6)), og 30 28 true (.bin .lss (.t 29) (cI 110)), o1 31 (.pick (.t 28) (.t 30) (.c (.bool false)))] false) (.cond (.t 31) .skip (.exit 0))) (.seq (.blk 1 (.seq (.reg [o1 34 (.fa 1 (.t 2)), o1 35 (.ld false 1 (.t 34)), o1 36 (.mv (.t 6)), o1 37 (.ia 2 (.t 35) (.t 36)), o1 38 (.fa 1 (.t 37)), o1 39 (.ld false 1 (.t 38)), o1 7 (.mv (.t 39))] false) (.reg [oa 40 [] (.fa 1 (.t 5)), oa 41 [0] (.ldf [48, 54] false 1 (.t 40)), oa 42 [] (.fa 1 (.t 2)), oa 43 [2] (.ldf [48, 54] false 1 (.t 42)), oa 44 [] (.mv (.t 6)), oa 45 [3, 4] (.ia 2 (.t 43) (.t 44)), oa 46 [5] (.fa 0 (.t 45)), oa 47 [6] (.ldf [48, 54] false 1 (.t 46)), oa 48 [] (.bs 45 2 0 []), oa 49 [] (.mv (.t 7)), oa 50 [] (.mv (.t 7)), oa 51 [10] (.len (.t 50)), oa 52 [11] (.mn (.t 51) (cI 110)), oa 53 [9, 12] (.sl 2 (.t 49) none (some (.t 52))), oa 54 [8, 13] (.appc 45 2 32 (.t 48) (.t 53)), oa 55 [7, 14] (.bld [.str ByteArray.empty, .nils] [(0, 1, (.t 47)), (1, 1, (.t 54))]), oa 56 [15] (.bs 42 2 1 [(.t 55)]), oa 57 [1, 16, 14] (.app 42 2 40 (.t 41) (.t 56)), oa 58 [0, 1, 2, 3, 4, 5, 6, 7, 8, 9, 10, 11, 12, 13, 14, 15, 16, 17] (.fa 1 (.t 5)), ob [18, 17, 17, 0, 1, 2, 3, 4, 5, 6, 7, 8, 9, 10, 11, 12, 13, 14, 15, 16, 17] (.st 1 (.t 58) (.t 57))] true))) (.reg [o1 32 (.mv (.t 6)), o1 33 (.bin .add (.t 32) (cI 1)), o1 6 (.mv (.t 33))] false)))))) (.seq (.seq (.reg [o1 8 (.mv (cI 0))] false) (.blk 2 (.loop (.seq (.seq (.reg [o1 59 (.mv (.t 8)), o1 60 (.fa 2 (.t 2)), o1 61 (.ld false 1 (.t 60)), o1 62 (.len (.t 61)), o1 63 (.bin .lss (.t 59) (.t 62)), o1 64 (.mv (.t 63)), og 65 64 true (.mv (.t 8)), og 66 64 true (.bin .lss (.t 65) (cI 1010)), o1 67 (.pick (.t 64) (.t 66) (.c (.bool false)))] false) (.cond (.t 67) .skip (.exit 2))) (.seq (.blk 3 (.seq (.reg [o1 70 (.fa 2 (.t 2)), o1 71 (.ld false 1 (.t 70)), o1 72 (.mv (.t 8)), o1 73 (.ia 4 (.t 71) (.t 72)), o1 74 (.ld true 4 (.t 73)), o1 9 (.new [.str ByteArray.empty, .nils, .str ByteArray.empty, .int .i64 0]), o0 (.st 4 (.t 9) (.t 74))] false) (.seq (.reg [o1 75 (.bs 45 2 0 []), o1 76 (.fa 1 (.t 9)), o1 77 (.ld false 1 (.t 76)), o1 78 (.fa 1 (.t 9)), o1 79 (.ld false 1 (.t 78)), o1 80 (.len (.t 79)), o1 81 (.mn (.t 80) (cI 110)), o1 82 (.sl 2 (.t 77) none (some (.t 81))), o1 83 (.app 45 2 32 (.t 75) (.t 82)), o1 84 (.fa 1 (.t 9)), o0 (.st 1 (.t 84) (.t 83))] false) (.reg [o1 85 (.fa 2 (.t 5)), o1 86 (.ld false 1 (.t 85)), o1 87 (.ld true 4 (.t 9)), o1 88 (.bs 47 4 1 [(.t 87)]), o1 89 (.app 47 4 64 (.t 86) (.t 88)), o1 90 (.fa 2 (.t 5)), o0 (.st 1 (.t 90) (.t 89))] false)))) (.reg [o1 68 (.mv (.t 8)), o1 69 (.bin .add (.t 68) (cI 1)), o1 8 (.mv (.t 69))] false)))))) (.seq (.seq (.reg [o1 10 (.mv (cI 0))] false) (.blk 4 (.loop (.seq (.seq (.reg [o1 91 (.mv (.t 10)), o1 92 (.fa 3 (.t 2)), o1 93 (.ld false 1 (.t 92)), o1 94 (.len (.t 93)), o1 95 (.bin .lss (.t 91) (.t 94)), o1 96 (.mv (.t 95)), og 97 96 true (.mv (.t 10)), og 98 96 true (.mv (.t 1)), og 99 96 true (.bin .lss (.t 97) (.t 98)), o1 100 (.pick (.t 96) (.t 99) (.c (.bool false)))] false) (.cond (.t 100) .skip (.exit 4))) (.seq (.blk 5 (.seq (.reg [o1 103 (.fa 3 (.t 2)), o1 104 (.ld false 1 (.t 103)), o1 105 (.mv (.t 10)), o1 106 (.ia 8 (.t 104) (.t 105)), o1 107 (.ld true 8 (.t 106)), o1 11 (.new [.int .i64 0, .int .i64 0, .str ByteArray.empty, .int .i64 0, .int .i64 0, .int .i64 0, .nils, .nils]), o0 (.st 8 (.t 11) (.t 107))] false) (.seq (.reg [o1 108 (.fa 6 (.t 11)), o1 109 (.ld false 1 (.t 108)), o1 110 (.fa 6 (.t 11)), o1 111 (.ld false 1 (.t 110)), o1 112 (.len (.t 111)), o1 113 (.mv (.t 1)), o1 114 (.mn (.t 112) (.t 113)), o1 115 (.sl 1 (.t 109) none (some (.t 114))), o1 116 (.call 28 [(.t 115)]), o1 117 (.fa 6 (.t 11)), o0 (.st 1 (.t 117) (.t 116))] false) (.seq (.reg [o1 118 (.bs 59 2 0 []), o1 12 (.mv (.t 118))] false) (.seq (.seq (.reg [o1 13 (.mv (cI 0))] false) (.blk 6 (.loop (.seq (.seq (.reg [o1 119 (.mv (.t 13)), o1 120 (.fa 7 (.t 11)), o1 121 (.ld false 1 (.t 120)), o1 122 (.len (.t 121)), o1 123 (.bin .lss (.t 119) (.t 122)), o1 124 (.mv (.t 123)), og 125 124 true (.mv (.t 13)), og 126 124 true (.bin .lss (.t 125) (cI 100)), o1 127 (.pick (.t 124) (.t 126) (.c (.bool false)))] false) (.cond (.t 127) .skip (.exit 6))) (.seq (.blk 7 (.seq (.reg [o1 130 (.fa 7 (.t 11)), o1 131 (.ld false 1 (.t 130)), o1 132 (.mv (.t 13)), o1 133 (.ia 2 (.t 131) (.t 132)), o1 134 (.ld true 2 (.t 133)), o1 14 (.new [.nils, .int .i64 0]), o0 (.st 2 (.t 14) (.t 134))] false) (.reg [oa 135 [] (.mv (.t 12)), oa 136 [] (.fa 0 (.t 14)), oa 137 [1] (.ld false 1 (.t 136)), oa 138 [] (.fa 0 (.t 14)), oa 139 [3] (.ld false 1 (.t 138)), oa 140 [4] (.len (.t 139)), oa 141 [5] (.mn (.t 140) (cI 100)), oa 142 [2, 6] (.sl 1 (.t 137) none (some (.t 141))), oa 143 [7] (.call 28 [(.t 142)]), oa 144 [] (.fa 1 (.t 14)), oa 145 [9] (.ld false 1 (.t 144)), oa 146 [8, 10] (.bld [.nils, .int .i64 0] [(0, 1, (.t 143)), (1, 1, (.t 145))]), oa 147 [11] (.bs 59 2 1 [(.t 146)]), oa 148 [0, 12, 8] (.app 59 2 32 (.t 135) (.t 147)), oa 12 [13, 13, 0, 1, 2, 3, 4, 5, 6, 7, 8, 9, 10, 11, 12, 13] (.mv (.t 148))] true))) (.reg [o1 128 (.mv (.t 13)), o1 129 (.bin .add (.t 128) (cI 1)), o1 13 (.mv (.t 129))] false)))))) (.seq (.reg [o1 149 (.mv (.t 12)), o1 150 (.fa 7 (.t 11)), o0 (.st 1 (.t 150) (.t 149))] false) (.reg [o1 151 (.fa 3 (.t 5)), o1 152 (.ld false 1 (.t 151)), o1 153 (.ld true 8 (.t 11)), o1 154 (.bs 50 8 1 [(.t 153)]), o1 155 (.app 50 8 104 (.t 152) (.t 154)), o1 156 (.fa 3 (.t 5)), o0 (.st 1 (.t 156) (.t 155))] false))))))) (.reg [o1 101 (.mv (.t 10)), o1 102 (.bin .add (.t 101) (cI 1)), o1 10 (.mv (.t 102))] false)))))) (.seq (.reg [o1 157 (.ld true 4 (.t 5)), o0 (.st 4 (.t 4) (.t 157))] false) .ret))))))
theorem tr18 : tr Try.prog (Try.f18.body.getD .skip) = some c18 := by kernel_rfl
set_option maxHeartbeats 4000000
attribute [local simp] cut spl one fillT
theorem mn_nat (a b : Nat) : (if (b : Int) < a then (b : Int) else a) = ((min a b : Nat) : Int) := by
  by_cases h : (b : Int) < a
  · rw [if_pos h]; omega
  · rw [if_neg h]; omega
theorem mn50 (a : Nat) : (if (50 : Int) < a then (50 : Int) else a) = ((min a 50 : Nat) : Int) := mn_nat a 50
theorem mn100 (a : Nat) : (if (100 : Int) < a then (100 : Int) else a) = ((min a 100 : Nat) : Int) := mn_nat a 100
theorem mn110 (a : Nat) : (if (110 : Int) < a then (110 : Int) else a) = ((min a 110 : Nat) : Int) := mn_nat a 110
def Str.few (s : Str) : Str := ⟨s.Name, s.L.take (min s.L.length 110)⟩
def Fun.few (s : Fun) : Fun := { s with Params := s.Params.take (min s.Params.length 110) }
def Cas.few (x : Cas) : Cas := ⟨x.L.take (min x.L.length 100), x.Body⟩
def Nod.few (n : Nod) (m : Nat) : Nod := { n with L := n.L.take (min n.L.length m), Cases := (n.Cases.take (min n.Cases.length 100)).map Cas.few }
def Cod.few (c : Cod) (m : Nat) : Cod := ⟨c.Name.extract 0 (min c.Name.size 50), (c.Structs.take (min c.Structs.length 110)).map Str.few, (c.Funcs.take (min c.Funcs.length 1010)).map Fun.few, (c.L.take (min c.L.length m)).map (Nod.few · m)⟩
def mE {α β : Type} (l : List α) (f : α → β) (enc : β → List T) (i : Nat) : List (List T) := ((l.take i).map f).map enc
theorem mE_len {α β : Type} (l : List α) (f : α → β) (enc : β → List T) {i : Nat} (h : i ≤ l.length) : (mE l f enc i).length = i := by simp [mE]; omega
theorem mE_succ {α β : Type} (l : List α) (f : α → β) (enc : β → List T) {i : Nat} (h : i < l.length) : mE l f enc (i + 1) = mE l f enc i ++ [enc (f l[i])] := by
  rw [mE, take_snoc _ _ h, List.map_append, List.map_append]; rfl
theorem mE_zero {α β : Type} (l : List α) (f : α → β) (enc : β → List T) : mE l f enc 0 = [] := rfl
theorem leT_agg4 (a b c : T) (z : Nat) : leT (.agg [a, b, c, .nils]) (.agg [a, b, c, .lst z []]) := by
  refine .agg _ _ rfl fun i x y hx hy => ?_
  match i with
  | 0 => simp at hx hy; subst hx hy; exact .refl _
  | 1 => simp at hx hy; subst hx hy; exact .refl _
  | 2 => simp at hx hy; subst hx hy; exact .refl _
  | 3 => simp at hx hy; subst hx hy; exact .nil _
  | i + 4 => simp at hx
theorem rfew_pure (c : Cod) (m : Nat) (hm : m ≤ 1000000000) (hn : c.Name.size ≤ 140737488355328) (hS : c.Structs.length ≤ 140737488355328) (hS2 : ∀ s ∈ c.Structs, s.L.length ≤ 140737488355328)
    (hF : c.Funcs.length ≤ 140737488355328) (hF2 : ∀ s ∈ c.Funcs, s.Params.length ≤ 140737488355328) (hL : c.L.length ≤ 140737488355328)
    (hL2 : ∀ n ∈ c.L, n.L.length ≤ 140737488355328 ∧ n.Cases.length ≤ 140737488355328 ∧ ∀ x ∈ n.Cases, x.L.length ≤ 140737488355328) : Pure Try.prog 18 [.agg c.enc, i64 m] (.agg (c.few m).enc) := by
  refine walk_of mo Try.func18 tr18 (rs := [.cell 4 true 4]) (by rfl) (by rfl) ?_
  unfold c18
  have hnm : min c.Name.size 50 ≤ c.Name.size := Nat.min_le_left _ _
  generalize hN1 : min c.Structs.length 110 = N1
  generalize hN2 : min c.Funcs.length 1010 = N2
  generalize hN3 : min c.L.length m = N3
  have hgoal : (c.few m).enc = [.str (c.Name.extract 0 (min c.Name.size 50)), .lst 2 (mE c.Structs Str.few Str.enc N1), .lst 4 (mE c.Funcs Fun.few Fun.enc N2), .lst 8 (mE c.L (Nod.few · m) Nod.enc N3)] := by
    simp only [Cod.few, Cod.enc, mE, hN1, hN2, hN3]
  rw [hgoal]
  clear hgoal
  simp [Cod.enc, mn50]
  refine req_intro hnm ?_
  generalize c.Name.extract 0 (min c.Name.size 50) = nm
  simp
  refine loop_up N1 (fun i => ⟨[(1, .t (i64 m)), (2, .ptr 2 0 0), (4, .ptr 4 0 0), (5, .ptr 5 0 0), (6, .t (i64 i))], (2, .box (c.enc.map .t)) :: (4, .box [.t (.str ByteArray.empty), .t .nils, .t .nils, .t .nils]) :: (5, .box [.t (.str nm), if i = 0 then .t .nils else .slc 157 2 0 i, .t .nils, .t .nils]) :: (if i = 0 then [] else [(157, .row 42 2 (mE c.Structs Str.few Str.enc i))])⟩) (fun _ => True) same ?_ trivial ?_
  · simp [Cod.enc]
  intro i hi _
  have hel := mE_len c.Structs Str.few Str.enc (i := i) (by omega)
  by_cases hl : i < N1
  · have hl1 : i < c.Structs.length := by omega
    have hl2 : (i : Int) < 110 := by omega
    have hsu := mE_succ c.Structs Str.few Str.enc hl1
    have hb := hS2 _ (List.getElem_mem hl1)
    have hmn : min c.Structs[i].L.length 110 ≤ c.Structs[i].L.length := Nat.min_le_left _ _
    have hm2 : min c.Structs[i].L.length 110 ≤ 110 := Nat.min_le_right _ _
    have htl : (c.Structs[i].L.take (min c.Structs[i].L.length 110)).length = min c.Structs[i].L.length 110 := by rw [List.length_take]; omega
    have hfe : (Str.few c.Structs[i]).enc = [.str c.Structs[i].Name, .lst 2 ((c.Structs[i].L.take (min c.Structs[i].L.length 110)).map Fld.enc)] := rfl
    generalize hq : min c.Structs[i].L.length 110 = q at *
    by_cases h0 : i = 0
    · subst h0
      simp [Cod.enc, hl1, hl2, Str.enc, mn110, hq]
      refine reqD_intro (by omega) ?_
      simp
      refine reqD_intro (by omega) ?_
      simp
      rw [wr_id (by omega) (by omega)]
      refine up_next (to 157 57) hl trivial ?_
      simp [hsu, hfe, to, mE_zero]
      exact fun n hn e => by have : far = 1000 := rfl; omega
    · simp [Cod.enc, hl1, hl2, h0, Str.enc, mn110, hq]
      refine reqD_intro (by omega) ?_
      simp
      refine reqD_intro (by omega) ?_
      simp
      refine reqD_intro ⟨by omega, by omega⟩ ?_
      simp
      rw [wr_id (by omega) (by omega)]
      refine up_next (to 157 57) hl trivial ?_
      simp [hsu, hfe, to, List.take_of_length_le, hel]
      exact fun n hn e => by have : far = 1000 := rfl; omega
  have hin : i = N1 := by omega
  subst hin
  have hel2 := mE_len c.Structs Str.few Str.enc (i := i) (by omega)
  rcases (by omega : ¬ i < c.Structs.length ∨ (i < c.Structs.length ∧ ¬ (i : Int) < 110)) with hx | ⟨hx, hy⟩
  case' inl => simp [Cod.enc, hx]
  case' inr => simp [Cod.enc, hx, hy]
  all_goals
    clear hx
    refine loop_up N2 (fun j => ⟨[(1, .t (i64 m)), (2, .ptr 2 0 0), (4, .ptr 4 0 0), (5, .ptr 5 0 0), (8, .t (i64 j))], (2, .box (c.enc.map .t)) :: (4, .box [.t (.str ByteArray.empty), .t .nils, .t .nils, .t .nils]) :: (5, .box [.t (.str nm), .t (.lst 2 (mE c.Structs Str.few Str.enc i)), if j = 0 then .t .nils else .slc 189 4 0 j, .t .nils]) :: (if j = 0 then [] else [(189, .row 47 4 (mE c.Funcs Fun.few Fun.enc j))])⟩) (fun _ => True) same ?_ trivial ?_
    · by_cases h0 : i = 0
      · subst h0
        simp [Cod.enc, mE_zero]
      · simp [Cod.enc, h0, hel2, List.take_of_length_le]
    intro j hj _
    have hel := mE_len c.Funcs Fun.few Fun.enc (i := j) (by omega)
    by_cases hl : j < N2
    · have hl1 : j < c.Funcs.length := by omega
      have hl2 : (j : Int) < 1010 := by omega
      have hsu := mE_succ c.Funcs Fun.few Fun.enc hl1
      have hb := hF2 _ (List.getElem_mem hl1)
      have hmn : min c.Funcs[j].Params.length 110 ≤ c.Funcs[j].Params.length := Nat.min_le_left _ _
      have hm2 : min c.Funcs[j].Params.length 110 ≤ 110 := Nat.min_le_right _ _
      have hfe : (Fun.few c.Funcs[j]).enc = [.str c.Funcs[j].Name, .lst 2 ((c.Funcs[j].Params.take (min c.Funcs[j].Params.length 110)).map Fld.enc), .str c.Funcs[j].Result, i64 c.Funcs[j].Body] := rfl
      generalize hq : min c.Funcs[j].Params.length 110 = q at *
      have hqm : min q c.Funcs[j].Params.length = q := Nat.min_eq_left hmn
      by_cases h0 : j = 0
      · subst h0
        simp [Cod.enc, hl1, hl2, Fun.enc, mn110, hq]
        refine req_intro (by omega) ?_
        simp [hqm]
        refine req_intro (by omega) ?_
        simp [hqm]
        refine weak_intro same ⟨[(87, .t (.agg (Fun.few c.Funcs[0]).enc)), (86, .t .nils), (1, .t (i64 m)), (2, .ptr 2 0 0), (4, .ptr 4 0 0), (5, .ptr 5 0 0), (8, .t (i64 0))], (2, .box (c.enc.map .t)) :: (4, .box [.t (.str ByteArray.empty), .t .nils, .t .nils, .t .nils]) :: (5, .box [.t (.str nm), .t (.lst 2 (mE c.Structs Str.few Str.enc i)), .t .nils, .t .nils]) :: []⟩ ?_ ?_
        · simp [Cod.enc, hfe, hqm, List.take_take]
        simp [hfe]
        rw [wr_id (by omega) (by omega)]
        refine up_next (to 189 89) hl trivial ?_
        simp [hsu, hfe, to, mE_zero, Cod.enc]
        exact fun n hn e => by have : far = 1000 := rfl; omega
      · simp [Cod.enc, hl1, hl2, h0, Fun.enc, mn110, hq]
        refine req_intro (by omega) ?_
        simp [hqm]
        refine req_intro (by omega) ?_
        simp [hqm]
        refine weak_intro same ⟨[(87, .t (.agg (Fun.few c.Funcs[j]).enc)), (86, .slc 189 4 0 j), (1, .t (i64 m)), (2, .ptr 2 0 0), (4, .ptr 4 0 0), (5, .ptr 5 0 0), (8, .t (i64 j))], (2, .box (c.enc.map .t)) :: (4, .box [.t (.str ByteArray.empty), .t .nils, .t .nils, .t .nils]) :: (5, .box [.t (.str nm), .t (.lst 2 (mE c.Structs Str.few Str.enc i)), .slc 189 4 0 j, .t .nils]) :: [(189, .row 47 4 (mE c.Funcs Fun.few Fun.enc j))]⟩ ?_ ?_
        · simp [Cod.enc, hfe, hqm, List.take_take]
        simp [hfe]
        refine req_intro ⟨by omega, by omega⟩ ?_
        simp
        rw [wr_id (by omega) (by omega)]
        refine up_next (to 189 89) hl trivial ?_
        simp [hsu, hfe, to, List.take_of_length_le, hel, Cod.enc]
        exact fun n hn e => by have : far = 1000 := rfl; omega
    have hin2 : j = N2 := by omega
    subst hin2
    have hel3 := mE_len c.Funcs Fun.few Fun.enc (i := j) (by omega)
    rcases (by omega : ¬ j < c.Funcs.length ∨ (j < c.Funcs.length ∧ ¬ (j : Int) < 1010)) with hx | ⟨hx, hy2⟩
    case' inl => simp [Cod.enc, hx]
    case' inr => simp [Cod.enc, hx, hy2]
    all_goals
      clear hx
      refine loop_up N3 (fun k => ⟨[(1, .t (i64 m)), (2, .ptr 2 0 0), (4, .ptr 4 0 0), (5, .ptr 5 0 0), (10, .t (i64 k))], (2, .box (c.enc.map .t)) :: (4, .box [.t (.str ByteArray.empty), .t .nils, .t .nils, .t .nils]) :: (5, .box [.t (.str nm), .t (.lst 2 (mE c.Structs Str.few Str.enc i)), .t (.lst 4 (mE c.Funcs Fun.few Fun.enc j)), if k = 0 then .t .nils else .slc 255 8 0 k]) :: (if k = 0 then [] else [(255, .row 50 8 (mE c.L (Nod.few · m) Nod.enc k))])⟩) (fun _ => True) same ?_ trivial ?_
      · by_cases h0 : j = 0
        · subst h0
          simp [Cod.enc, mE_zero]
        · simp [Cod.enc, h0, hel3, List.take_of_length_le]
      intro k hk _
      have hel := mE_len c.L (Nod.few · m) Nod.enc (i := k) (by omega)
      by_cases hl : k < N3
      · have hl1 : k < c.L.length := by omega
        have hl2 : k < m := by omega
        have hsu := mE_succ c.L (Nod.few · m) Nod.enc hl1
        obtain ⟨b1, b2, b3⟩ := hL2 _ (List.getElem_mem hl1)
        generalize hn : c.L[k] = n at *
        have hmn : min n.L.length m ≤ n.L.length := Nat.min_le_left _ _
        have hm2 : min n.L.length m ≤ m := Nat.min_le_right _ _
        have hfe : (n.few m).enc = [i64 n.Kind, i64 n.N, .str n.Name, i64 n.A, i64 n.B, i64 n.C, ints (n.L.take (min n.L.length m)), .lst 2 (mE n.Cases Cas.few Cas.enc (min n.Cases.length 100))] := by simp only [Nod.few, Nod.enc, mE]
        have hmnI : (if m < n.L.length then (m : Int) else (n.L.length : Int)) = ((min n.L.length m : Nat) : Int) := by split <;> omega
        generalize min n.L.length m = q at *
        generalize hK : min n.Cases.length 100 = K at *
        have hp28 := rints_pure (n.L.take q) (by rw [List.length_take]; omega)
        obtain ⟨LEs, hLE⟩ : ∃ LEs, ints (n.L.take q) = .lst 1 LEs := ⟨_, rfl⟩
        simp [Cod.enc, hl1, hl2, hn, Nod.enc, ints, hmnI]
        refine req_intro hmn ?_
        simp
        refine call_intro (ts := [ints (n.L.take q)]) (by simp [ints]) _ hp28 (.inl (by rfl)) ?_
        rw [hLE] at hfe ⊢
        simp
        refine loop_up K (fun r => ⟨[(1, .t (i64 m)), (2, .ptr 2 0 0), (4, .ptr 4 0 0), (5, .ptr 5 0 0), (10, .t (i64 k)), (11, .ptr 11 0 0), (12, .slc 218 2 0 r), (13, .t (i64 r))], (2, .box (c.enc.map .t)) :: (4, .box [.t (.str ByteArray.empty), .t .nils, .t .nils, .t .nils]) :: (5, .box [.t (.str nm), .t (.lst 2 (mE c.Structs Str.few Str.enc i)), .t (.lst 4 (mE c.Funcs Fun.few Fun.enc j)), if k = 0 then .t .nils else .slc 255 8 0 k]) :: (11, .box [.t (i64 n.Kind), .t (i64 n.N), .t (.str n.Name), .t (i64 n.A), .t (i64 n.B), .t (i64 n.C), .t (.lst 1 LEs), .t (.lst 2 (n.Cases.map Cas.enc))]) :: (218, .row 59 2 (mE n.Cases Cas.few Cas.enc r)) :: (if k = 0 then [] else [(255, .row 50 8 (mE c.L (Nod.few · m) Nod.enc k))])⟩) (fun _ => True) (to 218 118) ?_ trivial ?_
        · by_cases h0 : k = 0
          · simp [Cod.enc, to, mE_zero, h0]
            exact fun n hn e => by have : far = 1000 := rfl; omega
          · simp [Cod.enc, to, mE_zero, h0]
            exact fun n hn e => by have : far = 1000 := rfl; omega
        intro r hr _
        have her := mE_len n.Cases Cas.few Cas.enc (i := r) (by omega)
        by_cases hlr : r < K
        · have hr1 : r < n.Cases.length := by omega
          have hr2 : (r : Int) < 100 := by omega
          have hsr := mE_succ n.Cases Cas.few Cas.enc hr1
          have hb3 := b3 _ (List.getElem_mem hr1)
          have hmn3 : min n.Cases[r].L.length 100 ≤ n.Cases[r].L.length := Nat.min_le_left _ _
          have hmn4 : min n.Cases[r].L.length 100 ≤ 100 := Nat.min_le_right _ _
          have hce : (Cas.few n.Cases[r]).enc = [ints (n.Cases[r].L.take (min n.Cases[r].L.length 100)), i64 n.Cases[r].Body] := rfl
          generalize hq3 : min n.Cases[r].L.length 100 = q3 at *
          have hp28 := rints_pure (n.Cases[r].L.take q3) (by rw [List.length_take]; omega)
          obtain ⟨LE2, hLE2⟩ : ∃ LEs, ints (n.Cases[r].L.take q3) = .lst 1 LEs := ⟨_, rfl⟩
          by_cases h0 : k = 0
          · have hite : ∀ {α : Type} (a b : α), (if k = 0 then a else b) = a := fun a b => if_pos h0
            simp [hite, hr1, hr2, Cas.enc, ints, mn100, hq3]
            refine reqD_intro hmn3 ?_
            simp
            refine callD_intro (ts := [ints (n.Cases[r].L.take q3)]) (by simp [ints]) _ hp28 (.inl (by rfl)) ?_
            rw [hLE2] at hce ⊢
            simp
            refine reqD_intro ⟨by omega, by omega⟩ ?_
            simp
            rw [wr_id (by omega) (by omega)]
            refine up_next (to 218 148) hlr trivial ?_
            simp [hsr, hce, to, List.take_of_length_le, her, Cod.enc, hite]
            exact fun n hn e => by have : far = 1000 := rfl; omega
          · have hite : ∀ {α : Type} (a b : α), (if k = 0 then a else b) = b := fun a b => if_neg h0
            simp [hite, hr1, hr2, Cas.enc, ints, mn100, hq3]
            refine reqD_intro hmn3 ?_
            simp
            refine callD_intro (ts := [ints (n.Cases[r].L.take q3)]) (by simp [ints]) _ hp28 (.inl (by rfl)) ?_
            rw [hLE2] at hce ⊢
            simp
            refine reqD_intro ⟨by omega, by omega⟩ ?_
            simp
            rw [wr_id (by omega) (by omega)]
            refine up_next (to 218 148) hlr trivial ?_
            simp [hsr, hce, to, List.take_of_length_le, her, Cod.enc, hite]
            exact fun n hn e => by have : far = 1000 := rfl; omega
        have hinr : r = K := by omega
        subst hinr
        rcases (by omega : ¬ r < n.Cases.length ∨ (r < n.Cases.length ∧ ¬ (r : Int) < 100)) with hx | ⟨hx, hy3⟩
        · by_cases h0 : k = 0
          · have hite : ∀ {α : Type} (a b : α), (if k = 0 then a else b) = a := fun a b => if_pos h0
            simp [hite, Nod.enc, hx]
            refine weak_intro same ⟨[(1, .t (i64 m)), (2, .ptr 2 0 0), (4, .ptr 4 0 0), (5, .ptr 5 0 0), (10, .t (i64 k)), (152, .t .nils), (153, .t (.agg (n.few m).enc))], (2, .box (c.enc.map .t)) :: (4, .box [.t (.str ByteArray.empty), .t .nils, .t .nils, .t .nils]) :: (5, .box [.t (.str nm), .t (.lst 2 (mE c.Structs Str.few Str.enc i)), .t (.lst 4 (mE c.Funcs Fun.few Fun.enc j)), .t .nils]) :: []⟩ ?_ ?_
            · simp [Cod.enc, hfe, List.take_of_length_le, her]
            simp [hfe]
            rw [wr_id (by omega) (by omega)]
            refine up_next (to 255 155) hl trivial ?_
            have hz : mE c.L (Nod.few · m) Nod.enc k = [] := by rw [h0]; rfl
            have hsu1 : mE c.L (Nod.few · m) Nod.enc 1 = [(n.few m).enc] := by rw [hz] at hsu; rw [h0] at hsu; simpa using hsu
            simp [hsu1, hfe, to, Cod.enc, h0]
            exact fun n hn e => by have : far = 1000 := rfl; omega
          · have hite : ∀ {α : Type} (a b : α), (if k = 0 then a else b) = b := fun a b => if_neg h0
            simp [hite, Nod.enc, hx]
            refine weak_intro same ⟨[(1, .t (i64 m)), (2, .ptr 2 0 0), (4, .ptr 4 0 0), (5, .ptr 5 0 0), (10, .t (i64 k)), (152, .slc 255 8 0 k), (153, .t (.agg (n.few m).enc))], (2, .box (c.enc.map .t)) :: (4, .box [.t (.str ByteArray.empty), .t .nils, .t .nils, .t .nils]) :: (5, .box [.t (.str nm), .t (.lst 2 (mE c.Structs Str.few Str.enc i)), .t (.lst 4 (mE c.Funcs Fun.few Fun.enc j)), .slc 255 8 0 k]) :: [(255, .row 50 8 (mE c.L (Nod.few · m) Nod.enc k))]⟩ ?_ ?_
            · simp [Cod.enc, hfe, List.take_of_length_le, her]
            simp [hfe]
            refine req_intro ⟨by omega, by omega⟩ ?_
            simp
            rw [wr_id (by omega) (by omega)]
            refine up_next (to 255 155) hl trivial ?_
            simp [hsu, hfe, to, List.take_of_length_le, hel, Cod.enc]
            exact fun n hn e => by have : far = 1000 := rfl; omega
        · by_cases h0 : k = 0
          · have hite : ∀ {α : Type} (a b : α), (if k = 0 then a else b) = a := fun a b => if_pos h0
            simp [hite, Nod.enc, hx, hy3]
            refine weak_intro same ⟨[(1, .t (i64 m)), (2, .ptr 2 0 0), (4, .ptr 4 0 0), (5, .ptr 5 0 0), (10, .t (i64 k)), (152, .t .nils), (153, .t (.agg (n.few m).enc))], (2, .box (c.enc.map .t)) :: (4, .box [.t (.str ByteArray.empty), .t .nils, .t .nils, .t .nils]) :: (5, .box [.t (.str nm), .t (.lst 2 (mE c.Structs Str.few Str.enc i)), .t (.lst 4 (mE c.Funcs Fun.few Fun.enc j)), .t .nils]) :: []⟩ ?_ ?_
            · simp [Cod.enc, hfe, List.take_of_length_le, her]
            simp [hfe]
            rw [wr_id (by omega) (by omega)]
            refine up_next (to 255 155) hl trivial ?_
            have hz : mE c.L (Nod.few · m) Nod.enc k = [] := by rw [h0]; rfl
            have hsu1 : mE c.L (Nod.few · m) Nod.enc 1 = [(n.few m).enc] := by rw [hz] at hsu; rw [h0] at hsu; simpa using hsu
            simp [hsu1, hfe, to, Cod.enc, h0]
            exact fun n hn e => by have : far = 1000 := rfl; omega
          · have hite : ∀ {α : Type} (a b : α), (if k = 0 then a else b) = b := fun a b => if_neg h0
            simp [hite, Nod.enc, hx, hy3]
            refine weak_intro same ⟨[(1, .t (i64 m)), (2, .ptr 2 0 0), (4, .ptr 4 0 0), (5, .ptr 5 0 0), (10, .t (i64 k)), (152, .slc 255 8 0 k), (153, .t (.agg (n.few m).enc))], (2, .box (c.enc.map .t)) :: (4, .box [.t (.str ByteArray.empty), .t .nils, .t .nils, .t .nils]) :: (5, .box [.t (.str nm), .t (.lst 2 (mE c.Structs Str.few Str.enc i)), .t (.lst 4 (mE c.Funcs Fun.few Fun.enc j)), .slc 255 8 0 k]) :: [(255, .row 50 8 (mE c.L (Nod.few · m) Nod.enc k))]⟩ ?_ ?_
            · simp [Cod.enc, hfe, List.take_of_length_le, her]
            simp [hfe]
            refine req_intro ⟨by omega, by omega⟩ ?_
            simp
            rw [wr_id (by omega) (by omega)]
            refine up_next (to 255 155) hl trivial ?_
            simp [hsu, hfe, to, List.take_of_length_le, hel, Cod.enc]
            exact fun n hn e => by have : far = 1000 := rfl; omega
      have hin3 : k = N3 := by omega
      subst hin3
      have hel4 := mE_len c.L (Nod.few · m) Nod.enc (i := k) (by omega)
      rcases (by omega : ¬ k < c.L.length ∨ (k < c.L.length ∧ ¬ k < m)) with hx | ⟨hx, hy3⟩
      · by_cases h0 : k = 0
        · subst h0
          simp [Cod.enc, hx, retR_v, mE_zero]
          exact leT_agg4 ..
        · simp [Cod.enc, hx, h0, retR_v, List.take_of_length_le, hel4]
      · by_cases h0 : k = 0
        · subst h0
          simp [Cod.enc, hx, hy3, retR_v, mE_zero]
          exact leT_agg4 ..
        · simp [Cod.enc, hx, hy3, h0, retR_v, List.take_of_length_le, hel4]

end Go.Eng
