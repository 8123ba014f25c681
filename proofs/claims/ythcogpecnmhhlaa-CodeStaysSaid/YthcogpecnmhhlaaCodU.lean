/- What the program's functions 9 compute (numbers of this seat): contracts, walked by the engine. -/
import Derived.Test.YthcogpecnmhhlaaEngU
import Derived.Test.YthcogpecnmhhlaaCodT
import Derived.Test.YthcogpecnmhhlaaProg
namespace Go.Eng
open Go Go.Proofs
set_option maxRecDepth 100000
set_option linter.all false
def c9 : Cd := (.seq (.reg [o1 1 (.box true 4 (.t 0)), o1 2 (.mv (cI 0))] false) (.seq (.seq (.reg [o1 17 (.fa 1 (.t 1)), o1 18 (.ld false 1 (.t 17)), o1 19 (.len (.t 18)), o1 20 (.bin .gtr (.t 19) (cI 100)), o1 21 (.mv (.t 20)), og 22 21 false (.fa 2 (.t 1)), og 23 21 false (.ld false 1 (.t 22)), og 24 21 false (.len (.t 23)), og 25 21 false (.bin .gtr (.t 24) (cI 1000)), o1 26 (.pick (.t 21) (.c (.bool true)) (.t 25)), o1 27 (.mv (.t 26)), og 28 27 false (.fa 3 (.t 1)), og 29 27 false (.ld false 1 (.t 28)), og 30 27 false (.len (.t 29)), og 31 27 false (.bin .gtr (.t 30) (cI 20000)), o1 32 (.pick (.t 27) (.c (.bool true)) (.t 31))] false) (.cond (.t 32) (.seq (.reg [o1 2 (.mv (cI 8))] false) .ret) .skip)) (.seq (.seq (.reg [o1 3 (.mv (cI 0))] false) (.blk 0 (.loop (.seq (.seq (.reg [o1 33 (.mv (.t 3)), o1 34 (.fa 1 (.t 1)), o1 35 (.ld false 1 (.t 34)), o1 36 (.len (.t 35)), o1 37 (.bin .lss (.t 33) (.t 36))] false) (.cond (.t 37) .skip (.exit 0))) (.seq (.blk 1 (.seq (.reg [o1 40 (.fa 1 (.t 1)), o1 41 (.ld false 1 (.t 40)), o1 42 (.mv (.t 3)), o1 43 (.ia 2 (.t 41) (.t 42)), o1 44 (.fa 1 (.t 43)), o1 45 (.ld false 1 (.t 44)), o1 46 (.len (.t 45)), o1 47 (.bin .gtr (.t 46) (cI 100))] false) (.cond (.t 47) (.seq (.reg [o1 2 (.mv (cI 8))] false) .ret) .skip))) (.reg [o1 38 (.mv (.t 3)), o1 39 (.bin .add (.t 38) (cI 1)), o1 3 (.mv (.t 39))] false)))))) (.seq (.seq (.reg [o1 4 (.mv (cI 0))] false) (.blk 2 (.loop (.seq (.seq (.reg [o1 48 (.mv (.t 4)), o1 49 (.fa 2 (.t 1)), o1 50 (.ld false 1 (.t 49)), o1 51 (.len (.t 50)), o1 52 (.bin .lss (.t 48) (.t 51))] false) (.cond (.t 52) .skip (.exit 2))) (.seq (.blk 3 (.seq (.reg [o1 55 (.fa 2 (.t 1)), o1 56 (.ld false 1 (.t 55)), o1 57 (.mv (.t 4)), o1 58 (.ia 4 (.t 56) (.t 57)), o1 59 (.fa 1 (.t 58)), o1 60 (.ld false 1 (.t 59)), o1 61 (.len (.t 60)), o1 62 (.bin .gtr (.t 61) (cI 100))] false) (.cond (.t 62) (.seq (.reg [o1 2 (.mv (cI 8))] false) .ret) .skip))) (.reg [o1 53 (.mv (.t 4)), o1 54 (.bin .add (.t 53) (cI 1)), o1 4 (.mv (.t 54))] false)))))) (.seq (.reg [oa 63 [] (.fa 3 (.t 1)), oa 64 [0] (.ld false 1 (.t 63)), oa 65 [1] (.len (.t 64)), oa 66 [2, 2] (.mk 3 1 8 [.int .i64 0] (.t 65) (.t 65)), oa 67 [] (.fa 3 (.t 1)), oa 68 [4] (.ld false 1 (.t 67)), oa 69 [5] (.len (.t 68)), oa 70 [6, 6] (.mk 3 1 8 [.int .i64 0] (.t 69) (.t 69)), oa 5 [3, 0, 1, 2, 3] (.mv (.t 66)), oa 6 [7, 8, 0, 1, 2, 3, 4, 5, 6, 7, 8] (.mv (.t 70))] true) (.seq (.seq (.reg [o1 7 (.mv (cI 0))] false) (.blk 4 (.loop (.seq (.seq (.reg [o1 71 (.mv (.t 7)), o1 72 (.fa 3 (.t 1)), o1 73 (.ld false 1 (.t 72)), o1 74 (.len (.t 73)), o1 75 (.bin .lss (.t 71) (.t 74))] false) (.cond (.t 75) .skip (.exit 4))) (.seq (.blk 5 (.seq (.reg [o1 78 (.ld true 4 (.t 1)), o1 79 (.mv (.t 7)), o1 80 (.call 23 [(.t 78), (.t 79)]), o1 81 (.not (.t 80))] false) (.cond (.t 81) (.seq (.reg [o1 2 (.mv (cI 4))] false) .ret) .skip))) (.reg [o1 76 (.mv (.t 7)), o1 77 (.bin .add (.t 76) (cI 1)), o1 7 (.mv (.t 77))] false)))))) (.seq (.seq (.reg [o1 8 (.mv (cI 0))] false) (.blk 6 (.loop (.seq (.seq (.reg [o1 82 (.mv (.t 8)), o1 83 (.fa 2 (.t 1)), o1 84 (.ld false 1 (.t 83)), o1 85 (.len (.t 84)), o1 86 (.bin .lss (.t 82) (.t 85))] false) (.cond (.t 86) .skip (.exit 6))) (.seq (.blk 7 (.seq (.reg [o1 89 (.fa 2 (.t 1)), o1 90 (.ld false 1 (.t 89)), o1 91 (.mv (.t 8)), o1 92 (.ia 4 (.t 90) (.t 91)), o1 93 (.fa 3 (.t 92)), o1 94 (.ld false 1 (.t 93)), o1 9 (.mv (.t 94))] false) (.seq (.seq (.reg [o1 95 (.mv (.t 9)), o1 96 (.bin .lss (.t 95) (cI 0)), o1 97 (.mv (.t 96)), og 98 97 false (.mv (.t 9)), og 99 97 false (.fa 3 (.t 1)), og 100 97 false (.ld false 1 (.t 99)), og 101 97 false (.len (.t 100)), og 102 97 false (.bin .geq (.t 98) (.t 101)), o1 103 (.pick (.t 97) (.c (.bool true)) (.t 102)), o1 104 (.mv (.t 103)), og 105 104 false (.fa 3 (.t 1)), og 106 104 false (.ld false 1 (.t 105)), og 107 104 false (.mv (.t 9)), og 108 104 false (.ia 8 (.t 106) (.t 107)), og 109 104 false (.fa 0 (.t 108)), og 110 104 false (.ld false 1 (.t 109)), og 111 104 false (.bin .neq (.t 110) (cI 11)), o1 112 (.pick (.t 104) (.c (.bool true)) (.t 111))] false) (.cond (.t 112) (.seq (.reg [o1 2 (.mv (cI 4))] false) .ret) .skip)) (.seq (.reg [o1 113 (.mv (.t 5)), o1 114 (.mv (.t 9)), o1 115 (.ia 1 (.t 113) (.t 114)), o1 116 (.ld false 1 (.t 115)), o1 117 (.bin .add (.t 116) (cI 1)), o1 118 (.ia 1 (.t 113) (.t 114)), o0 (.st 1 (.t 118) (.t 117))] false) (.reg [o1 119 (.mv (.t 6)), o1 120 (.mv (.t 9)), o1 121 (.ia 1 (.t 119) (.t 120)), o0 (.st 1 (.t 121) (cI 1))] false))))) (.reg [o1 87 (.mv (.t 8)), o1 88 (.bin .add (.t 87) (cI 1)), o1 8 (.mv (.t 88))] false)))))) (.seq (.seq (.reg [o1 10 (.mv (cI 0))] false) (.blk 8 (.loop (.seq (.seq (.reg [o1 122 (.mv (.t 10)), o1 123 (.fa 3 (.t 1)), o1 124 (.ld false 1 (.t 123)), o1 125 (.len (.t 124)), o1 126 (.bin .lss (.t 122) (.t 125))] false) (.cond (.t 126) .skip (.exit 8))) (.seq (.blk 9 (.seq (.reg [o1 129 (.fa 3 (.t 1)), o1 130 (.ld false 1 (.t 129)), o1 131 (.mv (.t 10)), o1 132 (.ia 8 (.t 130) (.t 131)), o1 133 (.ld true 8 (.t 132)), o1 134 (.call 24 [(.t 133)]), o1 11 (.mv (.t 134))] false) (.seq (.reg [o1 12 (.mv (cI 0))] false) (.blk 10 (.loop (.seq (.seq (.reg [o1 135 (.mv (.t 12)), o1 136 (.mv (.t 11)), o1 137 (.len (.t 136)), o1 138 (.bin .lss (.t 135) (.t 137))] false) (.cond (.t 138) .skip (.exit 10))) (.seq (.blk 11 (.reg [o1 141 (.mv (.t 5)), o1 142 (.mv (.t 11)), o1 143 (.mv (.t 12)), o1 144 (.ia 1 (.t 142) (.t 143)), o1 145 (.ld false 1 (.t 144)), o1 146 (.ia 1 (.t 141) (.t 145)), o1 147 (.ld false 1 (.t 146)), o1 148 (.bin .add (.t 147) (cI 1)), o1 149 (.ia 1 (.t 141) (.t 145)), o0 (.st 1 (.t 149) (.t 148))] false)) (.reg [o1 139 (.mv (.t 12)), o1 140 (.bin .add (.t 139) (cI 1)), o1 12 (.mv (.t 140))] false)))))))) (.reg [o1 127 (.mv (.t 10)), o1 128 (.bin .add (.t 127) (cI 1)), o1 10 (.mv (.t 128))] false)))))) (.seq (.seq (.reg [o1 13 (.mv (cI 0))] false) (.blk 12 (.loop (.seq (.seq (.reg [o1 150 (.mv (.t 13)), o1 151 (.mv (.t 5)), o1 152 (.len (.t 151)), o1 153 (.bin .lss (.t 150) (.t 152))] false) (.cond (.t 153) .skip (.exit 12))) (.seq (.blk 13 (.seq (.reg [o1 156 (.mv (.t 5)), o1 157 (.mv (.t 13)), o1 158 (.ia 1 (.t 156) (.t 157)), o1 159 (.ld false 1 (.t 158)), o1 160 (.bin .neq (.t 159) (cI 1))] false) (.cond (.t 160) (.seq (.reg [o1 2 (.mv (cI 4))] false) .ret) .skip))) (.reg [o1 154 (.mv (.t 13)), o1 155 (.bin .add (.t 154) (cI 1)), o1 13 (.mv (.t 155))] false)))))) (.seq (.seq (.reg [o1 14 (.mv (cI 0))] false) (.blk 14 (.loop (.seq (.seq (.reg [o1 161 (.mv (.t 14)), o1 162 (.fa 3 (.t 1)), o1 163 (.ld false 1 (.t 162)), o1 164 (.len (.t 163)), o1 165 (.bin .lss (.t 161) (.t 164))] false) (.cond (.t 165) .skip (.exit 14))) (.seq (.blk 15 (.seq (.reg [o1 168 (.fa 3 (.t 1)), o1 169 (.ld false 1 (.t 168)), o1 170 (.mv (.t 14)), o1 171 (.ia 8 (.t 169) (.t 170)), o1 172 (.ld true 8 (.t 171)), o1 173 (.call 24 [(.t 172)]), o1 15 (.mv (.t 173))] false) (.seq (.seq (.reg [o1 16 (.mv (cI 0))] false) (.blk 16 (.loop (.seq (.seq (.reg [o1 174 (.mv (.t 16)), o1 175 (.mv (.t 15)), o1 176 (.len (.t 175)), o1 177 (.bin .lss (.t 174) (.t 176))] false) (.cond (.t 177) .skip (.exit 16))) (.seq (.blk 17 (.reg [oa 180 [] (.mv (.t 6)), oa 181 [] (.mv (.t 15)), oa 182 [] (.mv (.t 16)), oa 183 [1, 2] (.ia 1 (.t 181) (.t 182)), oa 184 [3] (.ld false 1 (.t 183)), oa 185 [] (.mv (.t 6)), oa 186 [] (.mv (.t 14)), oa 187 [5, 6] (.ia 1 (.t 185) (.t 186)), oa 188 [7] (.ld false 1 (.t 187)), oa 189 [8] (.bin .add (.t 188) (cI 1)), oa 190 [0, 4, 0, 1, 2, 3, 4, 5, 6, 7, 8, 9] (.ia 1 (.t 180) (.t 184)), ob [10, 9, 0, 1, 2, 3, 4, 5, 6, 7, 8, 9] (.st 1 (.t 190) (.t 189))] true)) (.reg [o1 178 (.mv (.t 16)), o1 179 (.bin .add (.t 178) (cI 1)), o1 16 (.mv (.t 179))] false)))))) (.seq (.reg [o1 191 (.mv (.t 6)), o1 192 (.mv (.t 14)), o1 193 (.ia 1 (.t 191) (.t 192)), o1 194 (.ld false 1 (.t 193)), o1 195 (.bin .gtr (.t 194) (cI 60))] false) (.cond (.t 195) (.seq (.reg [o1 2 (.mv (cI 6))] false) .ret) .skip))))) (.reg [o1 166 (.mv (.t 14)), o1 167 (.bin .add (.t 166) (cI 1)), o1 14 (.mv (.t 167))] false)))))) (.seq (.reg [o1 2 (.mv (cI 0))] false) .ret)))))))))))
theorem tr9 : tr Try.prog (Try.f9.body.getD .skip) = some c9 := by kernel_rfl
set_option maxHeartbeats 2000000
attribute [local simp] cut spl one fillT
def Cod.mayR (c : Cod) : Int :=
  if c.counted = false then 8
  else if ((List.range c.L.length).all fun i => c.rightB i) = false then 4
  else if (c.Funcs.all fun f => c.child (-1) f.Body blockB) = false then 4
  else if (tally c.L.length (c.bodies ++ c.L.flatMap Nod.kids)).any (fun n => !decide (n = 1)) then 4
  else if c.tooDeep then 6 else 0
theorem tally_comm (n : Nat) (a b : List Int) : tally n (a ++ b) = tally n (b ++ a) := by
  unfold tally; refine List.map_congr_left fun k _ => ?_; rw [List.count_append, List.count_append, Nat.add_comm]
theorem mayR_eq (c : Cod) : c.mayR = c.may := by unfold Cod.mayR Cod.may; rw [tally_comm]
theorem counted_iff (c : Cod) : c.counted = true ↔ c.Structs.length ≤ 100 ∧ c.Funcs.length ≤ 1000 ∧ c.L.length ≤ 20000 ∧ (∀ s ∈ c.Structs, s.L.length ≤ 100) ∧ (∀ s ∈ c.Funcs, s.Params.length ≤ 100) := by
  simp only [Cod.counted, Bool.and_eq_true, decide_eq_true_eq, Bool.not_eq_true', List.any_eq_false, Nat.not_lt, and_assoc]
theorem rmay_pure (c : Cod) (ok : c.Ok) (hS : c.Structs.length ≤ 1000000000) (hF : c.Funcs.length ≤ 1000000000) : Pure Try.prog 9 [.agg c.enc] (i64 c.may) := by
  rw [← mayR_eq]
  refine walk_of mo Try.func9 tr9 (rs := [.tmp 2]) (by rfl) (by rfl) ?_
  unfold c9
  have bad8 : c.counted = false → c.mayR = 8 := fun h => by simp [Cod.mayR, h]
  have oL := ok.l
  by_cases a1 : 100 < c.Structs.length
  · have a1' : (100 : Int) < c.Structs.length := by omega
    have : c.counted = false := by rw [Bool.eq_false_iff]; intro h; rw [counted_iff] at h; omega
    simp [Cod.enc, a1, a1', bad8 this]
  have a1' : ¬ (100 : Int) < c.Structs.length := by omega
  by_cases a2 : 1000 < c.Funcs.length
  · have a2' : (1000 : Int) < c.Funcs.length := by omega
    have : c.counted = false := by rw [Bool.eq_false_iff]; intro h; rw [counted_iff] at h; omega
    simp [Cod.enc, a1, a1', a2, a2', bad8 this]
  have a2' : ¬ (1000 : Int) < c.Funcs.length := by omega
  by_cases a3 : 20000 < c.L.length
  · have a3' : (20000 : Int) < c.L.length := by omega
    have : c.counted = false := by rw [Bool.eq_false_iff]; intro h; rw [counted_iff] at h; omega
    simp [Cod.enc, a1, a1', a2, a2', a3, a3', bad8 this]
  have a3' : ¬ (20000 : Int) < c.L.length := by omega
  simp [Cod.enc, a1, a1', a2, a2', a3, a3']
  refine loop_up c.Structs.length (fun i => ⟨[(1, .ptr 1 0 0), (3, .t (i64 i))], [(1, .box (c.enc.map .t))]⟩) (fun i => ∀ j (h1 : j < c.Structs.length), j < i → c.Structs[j].L.length ≤ 100) same ?_ (by simp) ?_
  · simp [Cod.enc]
  intro i hi hR
  by_cases hl : i < c.Structs.length
  · by_cases q : 100 < c.Structs[i].L.length
    · have q' : (100 : Int) < c.Structs[i].L.length := by omega
      have : c.counted = false := by rw [Bool.eq_false_iff]; intro h; rw [counted_iff] at h; have := h.2.2.2.1 _ (List.getElem_mem hl); omega
      simp [Cod.enc, hl, Str.enc, q, q', bad8 this]
    · have q' : ¬ (100 : Int) < c.Structs[i].L.length := by omega
      simp [Cod.enc, hl, Str.enc, q, q']
      rw [wr_id (by omega) (by omega)]
      refine up_next same hl ?_ ?_
      · intro j q1 hj
        rcases Nat.lt_succ_iff_lt_or_eq.1 hj with h2 | h2
        · exact hR j q1 h2
        · subst h2; omega
      · simp [Cod.enc]
  have hSs : ∀ s ∈ c.Structs, s.L.length ≤ 100 := fun s hs => by
    obtain ⟨j, hj, rfl⟩ := List.getElem_of_mem hs
    exact hR j hj (by omega)
  have hin : i = c.Structs.length := by omega
  subst hin
  clear hR hi hl
  simp [Cod.enc]
  refine loop_up c.Funcs.length (fun i => ⟨[(1, .ptr 1 0 0), (4, .t (i64 i))], [(1, .box (c.enc.map .t))]⟩) (fun i => ∀ j (h1 : j < c.Funcs.length), j < i → c.Funcs[j].Params.length ≤ 100) same ?_ (by simp) ?_
  · simp [Cod.enc]
  intro i hi hR
  by_cases hl : i < c.Funcs.length
  · by_cases q : 100 < c.Funcs[i].Params.length
    · have q' : (100 : Int) < c.Funcs[i].Params.length := by omega
      have : c.counted = false := by rw [Bool.eq_false_iff]; intro h; rw [counted_iff] at h; have := h.2.2.2.2 _ (List.getElem_mem hl); omega
      simp [Cod.enc, hl, Fun.enc, q, q', bad8 this]
    · have q' : ¬ (100 : Int) < c.Funcs[i].Params.length := by omega
      simp [Cod.enc, hl, Fun.enc, q, q']
      rw [wr_id (by omega) (by omega)]
      refine up_next same hl ?_ ?_
      · intro j q1 hj
        rcases Nat.lt_succ_iff_lt_or_eq.1 hj with h2 | h2
        · exact hR j q1 h2
        · subst h2; omega
      · simp [Cod.enc]
  have hFs : ∀ s ∈ c.Funcs, s.Params.length ≤ 100 := fun s hs => by
    obtain ⟨j, hj, rfl⟩ := List.getElem_of_mem hs
    exact hR j hj (by omega)
  have hin : i = c.Funcs.length := by omega
  subst hin
  clear hR hi hl
  have hcnt : c.counted = true := (counted_iff c).2 ⟨by omega, by omega, by omega, hSs, hFs⟩
  simp [Cod.enc]
  refine reqD_intro (by omega) ?_
  simp
  refine reqD_intro (by omega) ?_
  simp
  refine loop_up c.L.length (fun i => ⟨[(1, .ptr 1 0 0), (5, .slc 66 1 0 c.L.length), (6, .slc 70 1 0 c.L.length), (7, .t (i64 i))], [(1, .box (c.enc.map .t)), (66, .row 3 1 (row (List.replicate c.L.length 0))), (70, .row 3 1 (row (List.replicate c.L.length 0)))]⟩) (fun i => ∀ j, j < i → c.rightB j = true) same ?_ (by simp) ?_
  · simp [row, Cod.enc]
  intro i hi hR
  by_cases hl : i < c.L.length
  · simp [hl, Cod.enc]
    refine call_t (ts := [.agg c.enc, i64 i]) _ (rright_pure c ok i hl) (by simp) ?_
    have hrb : c.rightB i = (c.L[i].plain && c.kindRight i c.L[i]) := by simp [Cod.rightB, hl]
    rw [← hrb]
    cases hr : c.rightB i with
    | false =>
      have : c.mayR = 4 := by
        have : ((List.range c.L.length).all fun i => c.rightB i) = false := List.all_eq_false.2 ⟨i, by simpa using hl, by simp [hr]⟩
        simp only [Cod.mayR, hcnt, this]; rfl
      simp [this]
    | true =>
      simp
      rw [wr_id (by omega) (by omega)]
      refine up_next same hl ?_ ?_
      · intro j hj
        rcases Nat.lt_succ_iff_lt_or_eq.1 hj with h | h
        · exact hR j h
        · subst h; exact hr
      · simp [row, Cod.enc]
  have hin : i = c.L.length := by omega
  subst hin
  have hall : ((List.range c.L.length).all fun i => c.rightB i) = true := List.all_eq_true.2 fun j hj => hR j (by simpa using hj)
  have hkr : ∀ j (h : j < c.L.length), ∀ k ∈ c.L[j].kids, (j : Int) < k ∧ k < c.L.length := fun j h =>
    right_kids (c := c) (pl := j) (n := c.L[j]) (by omega) (by have := hR j h; simpa only [Cod.rightB, List.getElem?_eq_getElem h] using this)
  clear hR hi hl
  simp [Cod.enc]
  have hbt : ∀ i (h : i < c.Funcs.length), c.bodies.take (i + 1) = c.bodies.take i ++ [c.Funcs[i].Body] := by
    intro i h
    have h' : i < c.bodies.length := by simpa [Cod.bodies] using h
    rw [take_snoc _ _ h']; simp [Cod.bodies]
  refine loop_up c.Funcs.length (fun i => ⟨[(1, .ptr 1 0 0), (5, .slc 66 1 0 c.L.length), (6, .slc 70 1 0 c.L.length), (8, .t (i64 i))], [(1, .box (c.enc.map .t)), (66, .row 3 1 (row (tally c.L.length (c.bodies.take i)))), (70, .row 3 1 (row (deep0 c.L.length (c.bodies.take i))))]⟩) (fun i => ∀ j (h : j < c.Funcs.length), j < i → c.child (-1) c.Funcs[j].Body blockB = true) same ?_ (by simp) ?_
  · simp [row, Cod.enc, deep0, tally_nil]
  intro i hi hR
  by_cases hl : i < c.Funcs.length
  · have no : c.child (-1) c.Funcs[i].Body blockB = false → c.mayR = 4 := fun hch => by
      have : (c.Funcs.all fun f => c.child (-1) f.Body blockB) = false := List.all_eq_false.2 ⟨_, List.getElem_mem hl, by simp [hch]⟩
      simp only [Cod.mayR, hcnt, hall, this]; rfl
    by_cases b1 : c.Funcs[i].Body < 0
    · simp [hl, Cod.enc, Fun.enc, b1, no (by simp [Cod.child]; omega)]
    obtain ⟨m, hm⟩ : ∃ m : Nat, c.Funcs[i].Body = m := ⟨c.Funcs[i].Body.toNat, by omega⟩
    have b1' : ¬ (m : Int) < 0 := by omega
    by_cases b2 : m < c.L.length
    · by_cases b3 : c.L[m].Kind = 11
      · have hch : c.child (-1) c.Funcs[i].Body blockB = true := by rw [hm]; simp [Cod.child, b2, blockB, b3]; omega
        have hcl : (c.bodies.take i).count (m : Int) ≤ 1000 := Nat.le_trans List.count_le_length (by simp; omega)
        have htb := tally_bump (l := c.bodies.take i) b2
        have htg := tally_get (l := c.bodies.take i) b2
        have hnext : c.bodies.take (i + 1) = c.bodies.take i ++ [(m : Int)] := by rw [hbt i hl, hm]
        have hd0 : deep0 c.L.length (c.bodies.take (i + 1)) = (deep0 c.L.length (c.bodies.take i)).set m 1 := by
          rw [hbt i hl, hm]; simp [deep0]
        rw [hnext] at hd0
        generalize c.bodies.take i = B at *
        have b2' : ¬ (c.L.length : Int) ≤ m := by omega
        have b2'' : ¬ c.L.length ≤ m := by omega
        simp [hl, Cod.enc, Fun.enc, hm, b1', b2, b2', b2'', b3, Nod.enc, ints, row, tally_len, deep0_len, htg]
        have hw : wr .i64 ((B.count (m : Int) : Int) + 1) = (B.count (m : Int) : Int) + 1 := wr_id (by omega) (by omega)
        rw [wr_id (n := (i : Int) + 1) (by omega) (by omega)]
        refine up_next same hl ?_ ?_
        · intro j h hj
          rcases Nat.lt_succ_iff_lt_or_eq.1 hj with h2 | h2
          · exact hR j h h2
          · subst h2; exact hch
        · simp [hnext, ← htb, hd0, row, Cod.enc, hw, List.map_set]
      · have hch : c.child (-1) c.Funcs[i].Body blockB = false := by rw [hm]; simp [Cod.child, b2, blockB, b3]
        have b2' : ¬ (c.L.length : Int) ≤ m := by omega
        have b2'' : ¬ c.L.length ≤ m := by omega
        simp [hl, Cod.enc, Fun.enc, hm, b1', b2, b2', b2'', b3, Nod.enc, ints, no hch]
    · have hch : c.child (-1) c.Funcs[i].Body blockB = false := by rw [hm]; simp [Cod.child, List.getElem?_eq_none (show c.L.length ≤ m by omega)]
      have b2' : (c.L.length : Int) ≤ m := by omega
      have b2'' : c.L.length ≤ m := by omega
      simp [hl, Cod.enc, Fun.enc, hm, b1', b2, b2', b2'', no hch]
  have hin : i = c.Funcs.length := by omega
  subst hin
  have hallf : (c.Funcs.all fun f => c.child (-1) f.Body blockB) = true := List.all_eq_true.2 fun f hf => by
    obtain ⟨j, hj, rfl⟩ := List.getElem_of_mem hf
    exact hR j hj hj
  have hbt2 : c.bodies.take c.Funcs.length = c.bodies := List.take_of_length_le (by simp [Cod.bodies])
  have hbl : c.bodies.length ≤ 1000 := by simp [Cod.bodies]; omega
  rw [hbt2]
  clear hbt hbt2 hR hi hl
  have hDl : (deep0 c.L.length c.bodies).length = c.L.length := deep0_len _ _
  have hDb : ∀ x ∈ deep0 c.L.length c.bodies, 0 ≤ x ∧ x ≤ 1 := deep0_bound _ _
  have hmay : c.mayR = if (tally c.L.length (c.bodies ++ c.L.flatMap Nod.kids)).any (fun n => !decide (n = 1)) then 4 else if ((List.range c.L.length).any fun j => decide (60 < (c.deepAt (deep0 c.L.length c.bodies) (j + 1)).getD j 0)) then 6 else 0 := by
    simp only [Cod.mayR, hcnt, hall, hallf]; rfl
  generalize hD : deep0 c.L.length c.bodies = D at *
  simp [Cod.enc]
  refine loop_up c.L.length (fun i => ⟨[(1, .ptr 1 0 0), (5, .slc 66 1 0 c.L.length), (6, .slc 70 1 0 c.L.length), (10, .t (i64 i))], [(1, .box (c.enc.map .t)), (66, .row 3 1 (row (tally c.L.length (c.bodies ++ (c.L.take i).flatMap Nod.kids)))), (70, .row 3 1 (row D))]⟩) (fun _ => True) same ?_ trivial ?_
  · simp [row, Cod.enc]
  intro i hi _
  by_cases hl : i < c.L.length
  · have hks := kidsum_len c ok i
    have hkl := kids_len c.L[i]
    obtain ⟨ho1, ho2, _⟩ := ok.n _ (List.getElem_mem hl)
    have hk := hkr i hl
    simp [hl, Cod.enc, Nod.enc, ints]
    refine call_t (ts := [.agg c.L[i].enc]) _ (rkids_pure c.L[i] ho1 ho2) (by simp) ?_
    have htk : (c.L.take (i + 1)).flatMap Nod.kids = (c.L.take i).flatMap Nod.kids ++ c.L[i].kids := by
      rw [take_snoc _ _ hl, List.flatMap_append]; simp only [List.flatMap_cons, List.flatMap_nil, List.append_nil]
    generalize hK : c.L[i].kids = K at *
    have htk2 : c.bodies ++ (c.L.take (i + 1)).flatMap Nod.kids = (c.bodies ++ (c.L.take i).flatMap Nod.kids) ++ K := by rw [htk, List.append_assoc]
    have hAl : (c.bodies ++ (c.L.take i).flatMap Nod.kids).length ≤ 40000000070000 := by
      have : (c.L.take i).length ≤ 20000 := by simp; omega
      rw [List.length_append]; omega
    generalize hA : c.bodies ++ (c.L.take i).flatMap Nod.kids = A at *
    have hKl : K.length ≤ 2000000003 := by omega
    simp [ints]
    refine loop_up K.length (fun j => ⟨[(1, .ptr 1 0 0), (5, .slc 66 1 0 c.L.length), (6, .slc 70 1 0 c.L.length), (10, .t (i64 i)), (11, .t (ints K)), (12, .t (i64 j))], [(1, .box (c.enc.map .t)), (66, .row 3 1 (row (tally c.L.length (A ++ K.take j)))), (70, .row 3 1 (row D))]⟩) (fun _ => True) same ?_ trivial ?_
    · simp [row, Cod.enc, ints]
    intro j hj _
    by_cases hjl : j < K.length
    · obtain ⟨hk1, hk2⟩ := hk K[j] (List.getElem_mem hjl)
      obtain ⟨m, hm⟩ : ∃ m : Nat, K[j] = m := ⟨K[j].toNat, by omega⟩
      have hml : m < c.L.length := by omega
      have hcl : (A ++ K.take j).count (m : Int) ≤ A.length + K.length := Nat.le_trans List.count_le_length (by simp; omega)
      have htb := tally_bump (l := A ++ K.take j) hml
      have htg := tally_get (l := A ++ K.take j) hml
      have hnext : A ++ K.take (j + 1) = (A ++ K.take j) ++ [(m : Int)] := by rw [take_snoc _ _ hjl, hm, List.append_assoc]
      generalize A ++ K.take j = B at *
      simp [hjl, hm, ints, row, hml, tally_len, htg]
      have hw : wr .i64 ((B.count (m : Int) : Int) + 1) = (B.count (m : Int) : Int) + 1 := wr_id (by omega) (by omega)
      have hw2 : wr .i64 ((j : Int) + 1) = (j : Int) + 1 := wr_id (by omega) (by omega)
      rw [hw2]
      refine up_next same hjl trivial ?_
      simp [hnext, ← htb, row, Cod.enc, ints, hw, List.map_set]
    · have : j = K.length := by omega
      subst this
      rw [List.take_length, ← htk2]
      simp [ints]
      rw [wr_id (by omega) (by omega)]
      refine up_next same hl trivial ?_
      simp [row, Cod.enc]
  have hin : i = c.L.length := by omega
  subst hin
  rw [List.take_length]
  clear hi hl
  generalize hA : c.bodies ++ c.L.flatMap Nod.kids = A at *
  simp [Cod.enc]
  refine loop_up c.L.length (fun i => ⟨[(1, .ptr 1 0 0), (5, .slc 66 1 0 c.L.length), (6, .slc 70 1 0 c.L.length), (13, .t (i64 i))], [(1, .box (c.enc.map .t)), (66, .row 3 1 (row (tally c.L.length A))), (70, .row 3 1 (row D))]⟩) (fun i => ∀ x ∈ (tally c.L.length A).take i, x = 1) same ?_ (by simp) ?_
  · simp [row, Cod.enc]
  intro i hi hR
  have hTl := tally_len c.L.length A
  by_cases hl : i < c.L.length
  · have hlT : i < (tally c.L.length A).length := by omega
    by_cases q : (tally c.L.length A)[i] = 1
    · have htk := take_snoc _ _ hlT
      generalize tally c.L.length A = Y at *
      simp [hl, row, q, hTl]
      rw [wr_id (by omega) (by omega)]
      refine up_next same hl ?_ ?_
      · intro x hx
        rw [htk] at hx
        rcases List.mem_append.1 hx with hx | hx
        · exact hR x hx
        · rw [List.mem_singleton.1 hx]; exact q
      · simp [row, Cod.enc]
    · have : c.mayR = 4 := by
        have hany : ((tally c.L.length A).any fun n => !decide (n = 1)) = true := List.any_eq_true.2 ⟨_, List.getElem_mem hlT, by simpa using q⟩
        rw [hmay, hany]; rfl
      generalize tally c.L.length A = Y at *
      simp [hl, row, q, hTl, this]
  have hin : i = c.L.length := by omega
  subst hin
  have hany : ((tally c.L.length A).any fun n => !decide (n = 1)) = false := List.any_eq_false.2 fun x hx => by
    have := hR x (by rw [List.take_of_length_le (by omega)]; exact hx)
    simp [this]
  rw [hany] at hmay
  simp only [Bool.false_eq_true, if_false] at hmay
  clear hR hi hl
  simp [Cod.enc]
  refine loop_up c.L.length (fun i => ⟨[(1, .ptr 1 0 0), (6, .slc 70 1 0 c.L.length), (14, .t (i64 i))], [(1, .box (c.enc.map .t)), (70, .row 3 1 (row (c.deepAt D i)))]⟩) (fun i => (∀ x ∈ c.deepAt D i, 0 ≤ x ∧ x ≤ i + 1) ∧ ∀ j, j < i → ¬ 60 < (c.deepAt D (j + 1)).getD j 0) same ?_ ⟨by simpa [Cod.deepAt] using hDb, by simp⟩ ?_
  · simp [row, Cod.enc, Cod.deepAt]
  intro i hi ⟨hB, hR⟩
  have hEl : (c.deepAt D i).length = c.L.length := by rw [deepAt_len, hDl]
  by_cases hl : i < c.L.length
  · have hdn : c.deepAt D (i + 1) = deepSet c i (c.deepAt D i) c.L[i].kids := by
      rw [Cod.deepAt, Cod.deepStep, List.getElem?_eq_getElem hl]; rfl
    obtain ⟨ho1, ho2, _⟩ := ok.n _ (List.getElem_mem hl)
    have hk := hkr i hl
    have hkl := kids_len c.L[i]
    simp [hl, Cod.enc, Nod.enc, ints]
    refine call_t (ts := [.agg c.L[i].enc]) _ (rkids_pure c.L[i] ho1 ho2) (by simp) ?_
    generalize hK : c.L[i].kids = K at *
    generalize hE : c.deepAt D i = E at *
    have hKl : K.length ≤ 2000000003 := by omega
    simp [ints]
    refine loop_up K.length (fun j => ⟨[(1, .ptr 1 0 0), (6, .slc 70 1 0 c.L.length), (14, .t (i64 i)), (15, .t (ints K)), (16, .t (i64 j))], [(1, .box (c.enc.map .t)), (70, .row 3 1 (row (deepSet c i E (K.take j))))]⟩) (fun _ => True) same ?_ trivial ?_
    · simp [row, Cod.enc, ints, deepSet]
    intro j hj _
    have hb2 := deepSet_bound c i (i + 2) (by omega) (K.take j) E (fun x hx => by have := hB x hx; omega) (fun k hk2 => (hk k (List.mem_of_mem_take hk2)).1) (by
      rw [List.getD_eq_getElem?_getD, List.getElem?_eq_getElem (by omega)]
      have := hB _ (List.getElem_mem (show i < E.length by omega))
      simp only [Option.getD_some]; omega)
    by_cases hjl : j < K.length
    · obtain ⟨hk1, hk2⟩ := hk K[j] (List.getElem_mem hjl)
      obtain ⟨m, hm⟩ : ∃ m : Nat, K[j] = m := ⟨K[j].toNat, by omega⟩
      have hml : m < c.L.length := by omega
      have hnx : deepSet c i E (K.take (j + 1)) = (deepSet c i E (K.take j)).set m ((deepSet c i E (K.take j)).getD i 0 + 1) := by
        rw [take_snoc _ _ hjl, hm]
        simp only [deepSet, List.foldl_append, List.foldl_cons, List.foldl_nil, Int.toNat_natCast]
      have hFl : (deepSet c i E (K.take j)).length = c.L.length := by rw [deepSet_len, hEl]
      generalize deepSet c i E (K.take j) = F at *
      have hFi : i < F.length := by omega
      have hFg : F.getD i 0 = F[i] := by rw [List.getD_eq_getElem?_getD, List.getElem?_eq_getElem hFi]; rfl
      obtain ⟨hb3, hb4⟩ := hb2 F[i] (List.getElem_mem hFi)
      rw [hFg] at hnx
      simp [hjl, hm, ints, row, hml, hl, hFl]
      have hw : wr .i64 (F[i] + 1) = F[i] + 1 := wr_id (by omega) (by omega)
      rw [wr_id (n := (j : Int) + 1) (by omega) (by omega)]
      refine up_next same hjl trivial ?_
      simp [hnx, row, Cod.enc, ints, hw, List.map_set]
    · have : j = K.length := by omega
      subst this
      rw [List.take_length] at hb2 ⊢
      have hFl : (deepSet c i E K).length = c.L.length := by rw [deepSet_len, hEl]
      rw [← hdn] at hb2 hFl ⊢
      generalize hF : c.deepAt D (i + 1) = F at *
      have hFi : i < F.length := by omega
      have hFg : F.getD i 0 = F[i] := by rw [List.getD_eq_getElem?_getD, List.getElem?_eq_getElem hFi]; rfl
      by_cases hd : 60 < F[i]
      · have : c.mayR = 6 := by
          have : ((List.range c.L.length).any fun j => decide (60 < (c.deepAt D (j + 1)).getD j 0)) = true := List.any_eq_true.2 ⟨i, by simpa using hl, by rw [hF, hFg]; simpa using hd⟩
          rw [hmay, this]; rfl
        simp [ints, row, hl, hFl, hd, this]
      · simp [ints, row, hl, hFl, hd]
        rw [wr_id (n := (i : Int) + 1) (by omega) (by omega)]
        refine up_next same hl ⟨?_, ?_⟩ ?_
        · rw [hF]; intro x hx; have := hb2 x hx; omega
        · intro j hj
          rcases Nat.lt_succ_iff_lt_or_eq.1 hj with h2 | h2
          · simpa using hR j h2
          · subst h2; rw [hF, List.getElem?_eq_getElem hFi]; simpa using hd
        · simp [hF, row, Cod.enc]
  · have hin : i = c.L.length := by omega
    subst hin
    have : c.mayR = 0 := by
      have : ((List.range c.L.length).any fun j => decide (60 < (c.deepAt D (j + 1)).getD j 0)) = false := List.any_eq_false.2 fun j hj => by simpa using hR j (by simpa using hj)
      rw [hmay, this]; rfl
    simp [Cod.enc, this]

end Go.Eng
