/- What the program's functions 11 compute (numbers of this seat): contracts, walked by the engine. -/
import Derived.Test.YthcogpecnmhhlaaEngU
import Derived.Test.YthcogpecnmhhlaaCodV
import Derived.Test.YthcogpecnmhhlaaProg
namespace Go.Eng
open Go Go.Proofs
set_option maxRecDepth 100000
set_option linter.all false
def c11 : Cd := (.seq (.reg [o1 1 (.box true 4 (.t 0)), o1 2 (.new [.str ByteArray.empty, .nils, .nils, .nils])] false) (.seq (.reg [o1 18 (.bs 3 1 0 []), o1 3 (.mv (.t 18))] false) (.seq (.seq (.reg [o1 4 (.mv (cI 0))] false) (.blk 0 (.loop (.seq (.seq (.reg [o1 19 (.mv (.t 4)), o1 20 (.fa 2 (.t 1)), o1 21 (.ld false 1 (.t 20)), o1 22 (.len (.t 21)), o1 23 (.bin .lss (.t 19) (.t 22))] false) (.cond (.t 23) .skip (.exit 0))) (.seq (.blk 1 (.reg [oa 26 [] (.ld true 4 (.t 1)), oa 27 [] (.fa 2 (.t 1)), oa 28 [1] (.ld false 1 (.t 27)), oa 29 [] (.mv (.t 4)), oa 30 [2, 3] (.ia 4 (.t 28) (.t 29)), oa 31 [4] (.fa 3 (.t 30)), oa 32 [5] (.ld false 1 (.t 31)), oa 33 [] (.mv (.t 3)), oa 34 [0, 6, 7] (.callw 27 [(.t 26), (.t 32), (.t 33)]), oa 3 [8, 8, 0, 1, 2, 3, 4, 5, 6, 7, 8] (.mv (.t 34))] true)) (.reg [o1 24 (.mv (.t 4)), o1 25 (.bin .add (.t 24) (cI 1)), o1 4 (.mv (.t 25))] false)))))) (.seq (.reg [o1 35 (.fa 3 (.t 1)), o1 36 (.ld false 1 (.t 35)), o1 37 (.len (.t 36)), o1 38 (.mk 3 1 8 [.int .i64 0] (.t 37) (.t 37)), o1 5 (.mv (.t 38))] false) (.seq (.seq (.reg [o1 6 (.mv (cI 0))] false) (.blk 2 (.loop (.seq (.seq (.reg [o1 39 (.mv (.t 6)), o1 40 (.mv (.t 3)), o1 41 (.len (.t 40)), o1 42 (.bin .lss (.t 39) (.t 41))] false) (.cond (.t 42) .skip (.exit 2))) (.seq (.blk 3 (.reg [o1 45 (.mv (.t 5)), o1 46 (.mv (.t 3)), o1 47 (.mv (.t 6)), o1 48 (.ia 1 (.t 46) (.t 47)), o1 49 (.ld false 1 (.t 48)), o1 50 (.mv (.t 6)), o1 51 (.ia 1 (.t 45) (.t 49)), o0 (.st 1 (.t 51) (.t 50))] false)) (.reg [o1 43 (.mv (.t 6)), o1 44 (.bin .add (.t 43) (cI 1)), o1 6 (.mv (.t 44))] false)))))) (.seq (.reg [o1 52 (.mv (.t 5)), o1 7 (.mv (.t 52))] false) (.seq (.reg [o1 53 (.fa 0 (.t 1)), o1 54 (.ld false 1 (.t 53)), o1 55 (.bld [.str ByteArray.empty, .nils, .nils, .nils] [(0, 1, (.t 54))]), o1 8 (.new [.str ByteArray.empty, .nils, .nils, .nils]), o0 (.st 4 (.t 8) (.t 55))] false) (.seq (.seq (.reg [o1 9 (.mv (cI 0))] false) (.blk 4 (.loop (.seq (.seq (.reg [o1 56 (.mv (.t 9)), o1 57 (.fa 1 (.t 1)), o1 58 (.ld false 1 (.t 57)), o1 59 (.len (.t 58)), o1 60 (.bin .lss (.t 56) (.t 59))] false) (.cond (.t 60) .skip (.exit 4))) (.seq (.blk 5 (.reg [oa 63 [] (.fa 1 (.t 8)), oa 64 [0] (.ldf [71, 78] false 1 (.t 63)), oa 65 [] (.fa 1 (.t 1)), oa 66 [2] (.ldf [71, 78] false 1 (.t 65)), oa 67 [] (.mv (.t 9)), oa 68 [3, 4] (.ia 2 (.t 66) (.t 67)), oa 69 [5] (.fa 0 (.t 68)), oa 70 [6] (.ldf [71, 78] false 1 (.t 69)), oa 71 [] (.bs 45 2 0 []), oa 72 [] (.fa 1 (.t 1)), oa 73 [9] (.ld false 1 (.t 72)), oa 74 [] (.mv (.t 9)), oa 75 [10, 11] (.ia 2 (.t 73) (.t 74)), oa 76 [12] (.fa 1 (.t 75)), oa 77 [13] (.ld false 1 (.t 76)), oa 78 [8, 14] (.appc 45 2 32 (.t 71) (.t 77)), oa 79 [7, 15] (.bld [.str ByteArray.empty, .nils] [(0, 1, (.t 70)), (1, 1, (.t 78))]), oa 80 [16] (.bs 42 2 1 [(.t 79)]), oa 81 [1, 17, 15] (.app 42 2 40 (.t 64) (.t 80)), oa 82 [0, 1, 2, 3, 4, 5, 6, 7, 8, 9, 10, 11, 12, 13, 14, 15, 16, 17, 18] (.fa 1 (.t 8)), ob [19, 18, 18, 0, 1, 2, 3, 4, 5, 6, 7, 8, 9, 10, 11, 12, 13, 14, 15, 16, 17, 18] (.st 1 (.t 82) (.t 81))] true)) (.reg [o1 61 (.mv (.t 9)), o1 62 (.bin .add (.t 61) (cI 1)), o1 9 (.mv (.t 62))] false)))))) (.seq (.seq (.reg [o1 10 (.mv (cI 0))] false) (.blk 6 (.loop (.seq (.seq (.reg [o1 83 (.mv (.t 10)), o1 84 (.fa 2 (.t 1)), o1 85 (.ld false 1 (.t 84)), o1 86 (.len (.t 85)), o1 87 (.bin .lss (.t 83) (.t 86))] false) (.cond (.t 87) .skip (.exit 6))) (.seq (.blk 7 (.seq (.reg [o1 90 (.fa 2 (.t 1)), o1 91 (.ld false 1 (.t 90)), o1 92 (.mv (.t 10)), o1 93 (.ia 4 (.t 91) (.t 92)), o1 94 (.ld true 4 (.t 93)), o1 11 (.new [.str ByteArray.empty, .nils, .str ByteArray.empty, .int .i64 0]), o0 (.st 4 (.t 11) (.t 94))] false) (.reg [oa 95 [] (.fa 2 (.t 8)), oa 96 [0] (.ldf [99, 102] false 1 (.t 95)), oa 97 [] (.fa 0 (.t 11)), oa 98 [2] (.ldf [99, 102] false 1 (.t 97)), oa 99 [] (.bs 45 2 0 []), oa 100 [] (.fa 1 (.t 11)), oa 101 [5] (.ld false 1 (.t 100)), oa 102 [4, 6] (.appc 45 2 32 (.t 99) (.t 101)), oa 103 [] (.fa 2 (.t 11)), oa 104 [8] (.ldf [99, 102] false 1 (.t 103)), oa 105 [] (.mv (.t 7)), oa 106 [] (.fa 3 (.t 11)), oa 107 [11] (.ldf [99, 102] false 1 (.t 106)), oa 108 [10, 12] (.ia 1 (.t 105) (.t 107)), oa 109 [13] (.ldf [99, 102] false 1 (.t 108)), oa 110 [3, 7, 9, 14] (.bld [.str ByteArray.empty, .nils, .str ByteArray.empty, .int .i64 0] [(0, 1, (.t 98)), (1, 1, (.t 102)), (2, 1, (.t 104)), (3, 1, (.t 109))]), oa 111 [15] (.bs 47 4 1 [(.t 110)]), oa 112 [1, 16, 7] (.app 47 4 64 (.t 96) (.t 111)), oa 113 [0, 1, 2, 3, 4, 5, 6, 7, 8, 9, 10, 11, 12, 13, 14, 15, 16, 17] (.fa 2 (.t 8)), ob [18, 17, 17, 0, 1, 2, 3, 4, 5, 6, 7, 8, 9, 10, 11, 12, 13, 14, 15, 16, 17] (.st 1 (.t 113) (.t 112))] true))) (.reg [o1 88 (.mv (.t 10)), o1 89 (.bin .add (.t 88) (cI 1)), o1 10 (.mv (.t 89))] false)))))) (.seq (.seq (.reg [o1 12 (.mv (cI 0))] false) (.blk 8 (.loop (.seq (.seq (.reg [o1 114 (.mv (.t 12)), o1 115 (.mv (.t 3)), o1 116 (.len (.t 115)), o1 117 (.bin .lss (.t 114) (.t 116))] false) (.cond (.t 117) .skip (.exit 8))) (.seq (.blk 9 (.seq (.reg [oa 120 [] (.fa 3 (.t 1)), oa 121 [0] (.ld false 1 (.t 120)), oa 122 [] (.mv (.t 3)), oa 123 [] (.mv (.t 12)), oa 124 [2, 3] (.ia 1 (.t 122) (.t 123)), oa 125 [4] (.ld false 1 (.t 124)), oa 126 [1, 5] (.ia 8 (.t 121) (.t 125)), oa 127 [6] (.ld true 8 (.t 126)), oa 13 [] (.new [.int .i64 0, .int .i64 0, .str ByteArray.empty, .int .i64 0, .int .i64 0, .int .i64 0, .nils, .nils]), ob [8, 7, 0, 1, 2, 3, 4, 5, 6, 7, 8] (.st 8 (.t 13) (.t 127))] true) (.seq (.seq (.reg [o1 128 (.fa 3 (.t 13)), o1 129 (.ld false 1 (.t 128)), o1 130 (.bin .geq (.t 129) (cI 0))] false) (.cond (.t 130) (.reg [o1 131 (.mv (.t 7)), o1 132 (.fa 3 (.t 13)), o1 133 (.ld false 1 (.t 132)), o1 134 (.ia 1 (.t 131) (.t 133)), o1 135 (.ld false 1 (.t 134)), o1 136 (.fa 3 (.t 13)), o0 (.st 1 (.t 136) (.t 135))] false) .skip)) (.seq (.seq (.reg [o1 137 (.fa 4 (.t 13)), o1 138 (.ld false 1 (.t 137)), o1 139 (.bin .geq (.t 138) (cI 0))] false) (.cond (.t 139) (.reg [o1 140 (.mv (.t 7)), o1 141 (.fa 4 (.t 13)), o1 142 (.ld false 1 (.t 141)), o1 143 (.ia 1 (.t 140) (.t 142)), o1 144 (.ld false 1 (.t 143)), o1 145 (.fa 4 (.t 13)), o0 (.st 1 (.t 145) (.t 144))] false) .skip)) (.seq (.seq (.reg [o1 146 (.fa 5 (.t 13)), o1 147 (.ld false 1 (.t 146)), o1 148 (.bin .geq (.t 147) (cI 0))] false) (.cond (.t 148) (.reg [o1 149 (.mv (.t 7)), o1 150 (.fa 5 (.t 13)), o1 151 (.ld false 1 (.t 150)), o1 152 (.ia 1 (.t 149) (.t 151)), o1 153 (.ld false 1 (.t 152)), o1 154 (.fa 5 (.t 13)), o0 (.st 1 (.t 154) (.t 153))] false) .skip)) (.seq (.reg [o1 155 (.bs 3 1 0 []), o1 156 (.bs 59 2 0 []), o1 14 (.mv (.t 155)), o1 15 (.mv (.t 156))] false) (.seq (.seq (.reg [o1 16 (.mv (cI 0))] false) (.blk 10 (.loop (.seq (.seq (.reg [o1 157 (.mv (.t 16)), o1 158 (.fa 6 (.t 13)), o1 159 (.ld false 1 (.t 158)), o1 160 (.len (.t 159)), o1 161 (.bin .lss (.t 157) (.t 160))] false) (.cond (.t 161) .skip (.exit 10))) (.seq (.blk 11 (.reg [o1 164 (.mv (.t 14)), o1 165 (.mv (.t 7)), o1 166 (.fa 6 (.t 13)), o1 167 (.ld false 1 (.t 166)), o1 168 (.mv (.t 16)), o1 169 (.ia 1 (.t 167) (.t 168)), o1 170 (.ld false 1 (.t 169)), o1 171 (.ia 1 (.t 165) (.t 170)), o1 172 (.ld false 1 (.t 171)), o1 173 (.bs 3 1 1 [(.t 172)]), o1 174 (.app 3 1 8 (.t 164) (.t 173)), o1 14 (.mv (.t 174))] false)) (.reg [o1 162 (.mv (.t 16)), o1 163 (.bin .add (.t 162) (cI 1)), o1 16 (.mv (.t 163))] false)))))) (.seq (.seq (.reg [o1 17 (.mv (cI 0))] false) (.blk 12 (.loop (.seq (.seq (.reg [o1 175 (.mv (.t 17)), o1 176 (.fa 7 (.t 13)), o1 177 (.ld false 1 (.t 176)), o1 178 (.len (.t 177)), o1 179 (.bin .lss (.t 175) (.t 178))] false) (.cond (.t 179) .skip (.exit 12))) (.seq (.blk 13 (.reg [oa 182 [] (.mv (.t 15)), oa 183 [] (.fa 7 (.t 13)), oa 184 [1] (.ld false 1 (.t 183)), oa 185 [] (.mv (.t 17)), oa 186 [2, 3] (.ia 2 (.t 184) (.t 185)), oa 187 [4] (.fa 0 (.t 186)), oa 188 [5] (.ld false 1 (.t 187)), oa 189 [6] (.call 28 [(.t 188)]), oa 190 [] (.mv (.t 7)), oa 191 [] (.fa 7 (.t 13)), oa 192 [9] (.ld false 1 (.t 191)), oa 193 [] (.mv (.t 17)), oa 194 [10, 11] (.ia 2 (.t 192) (.t 193)), oa 195 [12] (.fa 1 (.t 194)), oa 196 [13] (.ld false 1 (.t 195)), oa 197 [8, 14] (.ia 1 (.t 190) (.t 196)), oa 198 [15] (.ld false 1 (.t 197)), oa 199 [7, 16] (.bld [.nils, .int .i64 0] [(0, 1, (.t 189)), (1, 1, (.t 198))]), oa 200 [17] (.bs 59 2 1 [(.t 199)]), oa 201 [0, 18, 7] (.app 59 2 32 (.t 182) (.t 200)), oa 15 [19, 19, 0, 1, 2, 3, 4, 5, 6, 7, 8, 9, 10, 11, 12, 13, 14, 15, 16, 17, 18, 19] (.mv (.t 201))] true)) (.reg [o1 180 (.mv (.t 17)), o1 181 (.bin .add (.t 180) (cI 1)), o1 17 (.mv (.t 181))] false)))))) (.seq (.reg [o1 202 (.mv (.t 14)), o1 203 (.mv (.t 15)), o1 204 (.fa 6 (.t 13)), o0 (.st 1 (.t 204) (.t 202)), o1 205 (.fa 7 (.t 13)), o0 (.st 1 (.t 205) (.t 203))] false) (.reg [o1 206 (.fa 3 (.t 8)), o1 207 (.ld false 1 (.t 206)), o1 208 (.ld true 8 (.t 13)), o1 209 (.bs 50 8 1 [(.t 208)]), o1 210 (.app 50 8 104 (.t 207) (.t 209)), o1 211 (.fa 3 (.t 8)), o0 (.st 1 (.t 211) (.t 210))] false)))))))))) (.reg [o1 118 (.mv (.t 12)), o1 119 (.bin .add (.t 118) (cI 1)), o1 12 (.mv (.t 119))] false)))))) (.seq (.reg [o1 212 (.ld true 4 (.t 8)), o0 (.st 4 (.t 2) (.t 212))] false) .ret)))))))))))
theorem tr11 : tr Try.prog (Try.f11.body.getD .skip) = some c11 := by kernel_rfl
set_option maxHeartbeats 8000000
attribute [local simp] cut spl one fillT
theorem woHp_ite (n : Nat) (p : Prop) [Decidable p] (a b : Hp) : woHp n (if p then a else b) = if p then woHp n a else woHp n b := by split <;> rfl
theorem lookH_ite (n : Nat) (p : Prop) [Decidable p] (a b : Hp) : look (if p then a else b) n = if p then look a n else look b n := by split <;> rfl
theorem dropH_ite (n : Nat) (p : Prop) [Decidable p] (a b : Hp) : drop (if p then a else b) n = if p then drop a n else drop b n := by split <;> rfl
theorem wo_ite (n : Nat) (p : Prop) [Decidable p] (a b : V) : (if p then a else b).wo n = if p then a.wo n else b.wo n := by split <;> rfl
attribute [local simp] woHp_ite lookH_ite dropH_ite wo_ite
def encI (x : Int) : List T := [i64 x]
def Cod.movedAt (c : Cod) (o : List Int) (x : Int) : Nod := (c.L.getD x.toNat Nod.zero).moved o
def Cod.normR (c : Cod) : Cod := ⟨c.Name, c.Structs, c.Funcs.map (Fun.moved c), c.walk.map (c.movedAt c.order)⟩
theorem rnorm_pure (c : Cod) (ok : c.Ok) (ok2 : ∀ n ∈ c.L, ∀ x ∈ n.Cases, x.L.length ≤ 1000000000) (t : c.Tree) (hcnt : c.counted = true) : Pure Try.prog 11 [.agg c.enc] (.agg c.normR.enc) := by
  refine walk_of mo Try.func11 tr11 (rs := [.cell 2 true 4]) (by rfl) (by rfl) ?_
  unfold c11
  obtain ⟨k1, k2, k3, k4, k5⟩ := (counted_iff c).1 hcnt
  have hwl := walk_len t
  have hwm := walk_mem t
  have hgoal : c.normR.enc = [.str c.Name, .lst 2 (mE c.Structs id Str.enc c.Structs.length), .lst 4 (mE c.Funcs (Fun.moved c) Fun.enc c.Funcs.length), .lst 8 (mE c.walk (c.movedAt c.order) Nod.enc c.walk.length)] := by
    simp [Cod.normR, Cod.enc, mE]
  rw [hgoal]
  clear hgoal
  simp [Cod.enc]
  refine loop_up c.Funcs.length (fun i => ⟨[(1, .ptr 1 0 0), (2, .ptr 2 0 0), (3, .slc 134 1 0 (c.forest c.L.length (c.bodies.take i)).length), (4, .t (i64 i))], [(1, .box (c.enc.map .t)), (2, .box [.t (.str ByteArray.empty), .t .nils, .t .nils, .t .nils]), (134, .row 3 1 (row (c.forest c.L.length (c.bodies.take i))))]⟩) (fun _ => True) (to 134 18) ?_ trivial ?_
  · simp [Cod.enc, to, forest_nil, row]
    exact fun n hn e => by have : far = 1000 := rfl; omega
  intro i hi _
  by_cases hl : i < c.Funcs.length
  · have hbl : i < c.bodies.length := by simpa [Cod.bodies] using hl
    have hbe : c.bodies[i] = c.Funcs[i].Body := by simp [Cod.bodies]
    obtain ⟨hk1, hk2⟩ := t.body c.bodies[i] (List.getElem_mem hbl)
    have hnx := forest_next c c.L.length c.bodies i hbl
    have hle := forest_le c c.L.length c.bodies (i + 1)
    rw [hbe] at hk1 hk2 hnx
    obtain ⟨m, hm⟩ : ∃ m : Nat, c.Funcs[i].Body = m := ⟨c.Funcs[i].Body.toNat, by omega⟩
    rw [hm] at hnx
    rw [hnx, List.length_append] at hle
    have hwl' : (c.forest c.L.length c.bodies).length = c.L.length := hwl
    generalize hA : c.forest c.L.length (c.bodies.take i) = A at *
    simp [Cod.enc, hl, Fun.enc, hm]
    refine mover_intro 134 (below_eff c ok t.ranged c.L.length m 34 A (by decide) (by omega) (by omega) (by omega)) (by simp [Cod.enc]) (by rfl) (by simp [row]) (by simp) ?_
    simp
    rw [wr_id (by omega) (by omega)]
    refine up_next (to 134 34) hl trivial ?_
    simp [hnx, row, to, Cod.enc]
    exact fun n hn e => by have : far = 1000 := rfl; omega
  have hin : i = c.Funcs.length := by omega
  subst hin
  rw [show c.forest c.L.length (c.bodies.take c.Funcs.length) = c.walk by rw [List.take_of_length_le (by simp [Cod.bodies])]; rfl]
  have hord : puts (List.replicate c.L.length 0) 0 c.walk = c.order := rfl
  have hom := order_mem t
  have hol := order_len c
  have hmv := node_mvOk t
  generalize hw : c.walk = w at *
  simp [Cod.enc]
  refine req_intro (by omega) ?_
  simp
  refine loop_up w.length (fun i => ⟨[(1, .ptr 1 0 0), (2, .ptr 2 0 0), (3, .t (ints w)), (5, .slc 38 1 0 c.L.length), (6, .t (i64 i))], [(1, .box (c.enc.map .t)), (2, .box [.t (.str ByteArray.empty), .t .nils, .t .nils, .t .nils]), (38, .row 3 1 (row (puts (List.replicate c.L.length 0) 0 (w.take i))))]⟩) (fun _ => True) same ?_ trivial ?_
  · simp [Cod.enc, row, ints, puts, List.take_of_length_le]
  intro i hi _
  by_cases hl : i < w.length
  · obtain ⟨q1, q2⟩ := hwm w[i] (List.getElem_mem hl)
    obtain ⟨m, hm⟩ : ∃ m : Nat, w[i] = m := ⟨w[i].toNat, by omega⟩
    have hml : m < c.L.length := by omega
    have hnx : puts (List.replicate c.L.length 0) 0 (w.take (i + 1)) = (puts (List.replicate c.L.length 0) 0 (w.take i)).set m i := by
      rw [take_snoc _ _ hl, puts_append, hm]
      simp [puts]; congr 1; omega
    have hpl : (puts (List.replicate c.L.length 0) 0 (w.take i)).length = c.L.length := by rw [puts_len]; simp
    generalize puts (List.replicate c.L.length 0) 0 (w.take i) = Y at *
    simp [ints, hl, hm, row, hml, hpl]
    rw [wr_id (by omega) (by omega)]
    refine up_next same hl trivial ?_
    simp [hnx, row, Cod.enc, ints, List.map_set]
  have hin : i = w.length := by omega
  subst hin
  rw [List.take_length, hord]
  generalize ho : c.order = o at *
  simp [Cod.enc, ints]
  refine loop_up c.Structs.length (fun i => ⟨[(1, .ptr 1 0 0), (2, .ptr 2 0 0), (3, .t (ints w)), (7, .t (ints o)), (8, .ptr 8 0 0), (9, .t (i64 i))], (1, .box (c.enc.map .t)) :: (2, .box [.t (.str ByteArray.empty), .t .nils, .t .nils, .t .nils]) :: (8, .box [.t (.str c.Name), if i = 0 then .t .nils else .slc 181 2 0 i, .t .nils, .t .nils]) :: (if i = 0 then [] else [(181, .row 42 2 (mE c.Structs id Str.enc i))])⟩) (fun _ => True) same ?_ trivial ?_
  · simp [Cod.enc, row, ints, hol, List.take_of_length_le]
  intro i hi _
  have hel := mE_len c.Structs id Str.enc (i := i) (by omega)
  by_cases hl : i < c.Structs.length
  · have hsu := mE_succ c.Structs id Str.enc hl
    have hb := k4 _ (List.getElem_mem hl)
    by_cases h0 : i = 0
    · subst h0
      simp [Cod.enc, hl, Str.enc, ints]
      refine reqD_intro (by omega) ?_
      simp
      rw [wr_id (by omega) (by omega)]
      refine up_next (to 181 81) hl trivial ?_
      simp [hsu, Str.enc, to, mE_zero, List.take_of_length_le, Cod.enc, ints]
      exact fun n hn e => by have : far = 1000 := rfl; omega
    · simp [Cod.enc, hl, h0, Str.enc, ints]
      refine reqD_intro (by omega) ?_
      simp
      refine reqD_intro ⟨by omega, by omega⟩ ?_
      simp
      rw [wr_id (by omega) (by omega)]
      refine up_next (to 181 81) hl trivial ?_
      simp [hsu, Str.enc, to, List.take_of_length_le, hel, Cod.enc, ints]
      exact fun n hn e => by have : far = 1000 := rfl; omega
  have hin : i = c.Structs.length := by omega
  subst hin
  simp [Cod.enc, ints]
  refine loop_up c.Funcs.length (fun i => ⟨[(1, .ptr 1 0 0), (2, .ptr 2 0 0), (3, .t (ints w)), (7, .t (ints o)), (8, .ptr 8 0 0), (10, .t (i64 i))], (1, .box (c.enc.map .t)) :: (2, .box [.t (.str ByteArray.empty), .t .nils, .t .nils, .t .nils]) :: (8, .box [.t (.str c.Name), .t (.lst 2 (mE c.Structs id Str.enc c.Structs.length)), if i = 0 then .t .nils else .slc 212 4 0 i, .t .nils]) :: (if i = 0 then [] else [(212, .row 47 4 (mE c.Funcs (Fun.moved c) Fun.enc i))])⟩) (fun _ => True) same ?_ trivial ?_
  · by_cases h0 : c.Structs = []
    · simp [h0, Cod.enc, ints, mE_zero]
    · simp [h0, Cod.enc, ints, hel, List.take_of_length_le]
  intro i hi _
  have hel := mE_len c.Funcs (Fun.moved c) Fun.enc (i := i) (by omega)
  by_cases hl : i < c.Funcs.length
  · have hsu := mE_succ c.Funcs (Fun.moved c) Fun.enc hl
    have hb := k5 _ (List.getElem_mem hl)
    have hbl : i < c.bodies.length := by simpa [Cod.bodies] using hl
    have hbe : c.bodies[i] = c.Funcs[i].Body := by simp [Cod.bodies]
    obtain ⟨hk1, hk2⟩ := t.body c.bodies[i] (List.getElem_mem hbl)
    rw [hbe] at hk1 hk2
    obtain ⟨m, hm⟩ : ∃ m : Nat, c.Funcs[i].Body = m := ⟨c.Funcs[i].Body.toNat, by omega⟩
    have hml : m < o.length := by omega
    have hfe : (Fun.moved c c.Funcs[i]).enc = [.str c.Funcs[i].Name, .lst 2 (c.Funcs[i].Params.map Fld.enc), .str c.Funcs[i].Result, i64 o[m]] := by
      simp [Fun.moved, Fun.enc, ho, hm, hml]
    by_cases h0 : i = 0
    · subst h0
      simp [Cod.enc, hl, Fun.enc, ints, hm, hml]
      refine reqD_intro (by omega) ?_
      simp [hml]
      rw [wr_id (by omega) (by omega)]
      refine up_next (to 212 112) hl trivial ?_
      simp [hsu, hfe, to, mE_zero, List.take_of_length_le, Cod.enc, ints]
      exact fun n hn e => by have : far = 1000 := rfl; omega
    · simp [Cod.enc, hl, h0, Fun.enc, ints, hm, hml]
      refine reqD_intro (by omega) ?_
      simp [hml]
      refine reqD_intro ⟨by omega, by omega⟩ ?_
      simp
      rw [wr_id (by omega) (by omega)]
      refine up_next (to 212 112) hl trivial ?_
      simp [hsu, hfe, to, List.take_of_length_le, hel, Cod.enc, ints]
      exact fun n hn e => by have : far = 1000 := rfl; omega
  have hin : i = c.Funcs.length := by omega
  subst hin
  simp [Cod.enc, ints]
  refine loop_up w.length (fun i => ⟨[(1, .ptr 1 0 0), (2, .ptr 2 0 0), (3, .t (ints w)), (7, .t (ints o)), (8, .ptr 8 0 0), (12, .t (i64 i))], (1, .box (c.enc.map .t)) :: (2, .box [.t (.str ByteArray.empty), .t .nils, .t .nils, .t .nils]) :: (8, .box [.t (.str c.Name), .t (.lst 2 (mE c.Structs id Str.enc c.Structs.length)), .t (.lst 4 (mE c.Funcs (Fun.moved c) Fun.enc c.Funcs.length)), if i = 0 then .t .nils else .slc 310 8 0 i]) :: (if i = 0 then [] else [(310, .row 50 8 (mE w (c.movedAt o) Nod.enc i))])⟩) (fun _ => True) same ?_ trivial ?_
  · by_cases h0 : c.Funcs = []
    · simp [h0, Cod.enc, ints, mE_zero]
    · simp [h0, Cod.enc, ints, hel, List.take_of_length_le]
  intro i hi _
  have hel := mE_len w (c.movedAt o) Nod.enc (i := i) (by omega)
  by_cases hl : i < w.length
  · obtain ⟨q1, q2⟩ := hwm w[i] (List.getElem_mem hl)
    obtain ⟨m, hm⟩ : ∃ m : Nat, w[i] = m := ⟨w[i].toNat, by omega⟩
    have hml : m < c.L.length := by omega
    have hsu := mE_succ w (c.movedAt o) Nod.enc hl
    have hat : c.movedAt o w[i] = c.L[m].moved o := by rw [hm]; simp [Cod.movedAt, hml]
    rw [hat] at hsu
    clear hat
    have hmv := hmv m hml
    obtain ⟨ok1, okc, _⟩ := ok.n _ (List.getElem_mem hml)
    have ok3 := ok2 _ (List.getElem_mem hml)
    have hkL : ∀ x ∈ c.L[m].L, 0 ≤ x ∧ x < o.length := fun x hx => by have := t.ranged m hml x (kids_L hx); omega
    have hkC : ∀ x ∈ c.L[m].Cases, 0 ≤ x.Body ∧ x.Body < o.length := fun x hx => by have := t.ranged m hml _ (kids_Cases hx); omega
    generalize hn : c.L[m] = n at *
    obtain ⟨a1, ha1⟩ : ∃ a1, mvI o n.A = a1 := ⟨_, rfl⟩
    obtain ⟨a2, ha2⟩ : ∃ a2, mvI o n.B = a2 := ⟨_, rfl⟩
    obtain ⟨a3, ha3⟩ : ∃ a3, mvI o n.C = a3 := ⟨_, rfl⟩
    have step : ∀ x a, mvOk o x → mvI o x = a → (¬ 0 ≤ a ∧ x = a) ∨ ∃ k : Nat, ∃ h : k < o.length, x = k ∧ o[k] = a := by
      intro x a hx he
      rcases hx with rfl | ⟨h1, h2⟩
      · left; rw [← he]; simp [mvI]
      · right
        obtain ⟨k, rfl⟩ : ∃ k : Nat, x = k := ⟨x.toNat, by omega⟩
        refine ⟨k, by omega, rfl, ?_⟩
        rw [← he]
        have : ¬ (k : Int) = -1 := by omega
        simp [mvI, this, show k < o.length by omega]
    have hfe : (n.moved o).enc = [i64 n.Kind, i64 n.N, .str n.Name, i64 a1, i64 a2, i64 a3, .lst 1 (mE n.L (mvI o) encI n.L.length), .lst 2 (mE n.Cases (Cas.moved o) Cas.enc n.Cases.length)] := by
      simp [Nod.moved, Nod.enc, mE, ha1, ha2, ha3, ints, encI]
    simp [Cod.enc, hl, hm, hml, hn, Nod.enc, ints]
    rcases step _ _ hmv.a ha1 with ⟨p1, e1⟩ | ⟨u1, g1, e1, f1⟩
    all_goals first | simp [e1, p1] | simp [e1, g1, f1]
    all_goals rcases step _ _ hmv.b ha2 with ⟨p2, e2⟩ | ⟨u2, g2, e2, f2⟩
    all_goals first | simp [e2, p2] | simp [e2, g2, f2]
    all_goals rcases step _ _ hmv.c ha3 with ⟨p3, e3⟩ | ⟨u3, g3, e3, f3⟩
    all_goals first | simp [e3, p3] | simp [e3, g3, f3]
    all_goals
      clear e1 e2 e3
      refine loop_up n.L.length (fun r => ⟨[(1, .ptr 1 0 0), (2, .ptr 2 0 0), (3, .t (ints w)), (7, .t (ints o)), (8, .ptr 8 0 0), (12, .t (i64 i)), (13, .ptr 13 0 0), (14, .slc 214 1 0 r), (15, .slc 156 2 0 0), (16, .t (i64 r))], (1, .box (c.enc.map .t)) :: (2, .box [.t (.str ByteArray.empty), .t .nils, .t .nils, .t .nils]) :: (8, .box [.t (.str c.Name), .t (.lst 2 (mE c.Structs id Str.enc c.Structs.length)), .t (.lst 4 (mE c.Funcs (Fun.moved c) Fun.enc c.Funcs.length)), if i = 0 then .t .nils else .slc 310 8 0 i]) :: (13, .box [.t (i64 n.Kind), .t (i64 n.N), .t (.str n.Name), .t (i64 a1), .t (i64 a2), .t (i64 a3), .t (ints n.L), .t (.lst 2 (n.Cases.map Cas.enc))]) :: (214, .row 3 1 (mE n.L (mvI o) encI r)) :: (156, .row 59 2 []) :: (if i = 0 then [] else [(310, .row 50 8 (mE w (c.movedAt o) Nod.enc i))])⟩) (fun _ => True) (to 214 155) ?_ trivial ?_
      · by_cases h0 : i = 0
        · simp [Cod.enc, ints, mE_zero, to, h0]
          exact fun n hn e => by have : far = 1000 := rfl; omega
        · simp [Cod.enc, ints, mE_zero, to, h0]
          exact fun n hn e => by have : far = 1000 := rfl; omega
      intro r hr _
      have her := mE_len n.L (mvI o) encI (i := r) (by omega)
      by_cases hlr : r < n.L.length
      · have hsr := mE_succ n.L (mvI o) encI hlr
        have hkr : ∃ u : Nat, ∃ g : u < o.length, n.L[r] = u ∧ o[u] = mvI o n.L[r] := by
          have hk := hkL n.L[r] (List.getElem_mem hlr)
          obtain ⟨u, hu⟩ : ∃ u : Nat, n.L[r] = u := ⟨n.L[r].toNat, by omega⟩
          refine ⟨u, by omega, hu, ?_⟩
          have : ¬ (u : Int) = -1 := by omega
          rw [hu]; simp [mvI, this, show u < o.length by omega]
        obtain ⟨u, g, hu, hou⟩ := hkr
        simp [Nod.enc, hlr, ints, hu, g]
        refine req_intro ⟨by omega, by omega⟩ ?_
        simp
        rw [wr_id (by omega) (by omega)]
        rw [← hou] at hsr
        refine up_next (to 214 174) hlr trivial ?_
        by_cases h0 : i = 0
        · simp [hsr, to, List.take_of_length_le, her, Cod.enc, ints, h0, encI]
          exact fun n hn e => by have : far = 1000 := rfl; omega
        · simp [hsr, to, List.take_of_length_le, her, Cod.enc, ints, h0, encI]
          exact fun n hn e => by have : far = 1000 := rfl; omega
      have hinr : r = n.L.length := by omega
      subst hinr
      simp [Nod.enc, ints]
      refine loop_up n.Cases.length (fun r => ⟨[(1, .ptr 1 0 0), (2, .ptr 2 0 0), (3, .t (ints w)), (7, .t (ints o)), (8, .ptr 8 0 0), (12, .t (i64 i)), (13, .ptr 13 0 0), (14, .t (.lst 1 (mE n.L (mvI o) encI n.L.length))), (15, .slc 301 2 0 r), (17, .t (i64 r))], (1, .box (c.enc.map .t)) :: (2, .box [.t (.str ByteArray.empty), .t .nils, .t .nils, .t .nils]) :: (8, .box [.t (.str c.Name), .t (.lst 2 (mE c.Structs id Str.enc c.Structs.length)), .t (.lst 4 (mE c.Funcs (Fun.moved c) Fun.enc c.Funcs.length)), if i = 0 then .t .nils else .slc 310 8 0 i]) :: (13, .box [.t (i64 n.Kind), .t (i64 n.N), .t (.str n.Name), .t (i64 a1), .t (i64 a2), .t (i64 a3), .t (ints n.L), .t (.lst 2 (n.Cases.map Cas.enc))]) :: (301, .row 59 2 (mE n.Cases (Cas.moved o) Cas.enc r)) :: (if i = 0 then [] else [(310, .row 50 8 (mE w (c.movedAt o) Nod.enc i))])⟩) (fun _ => True) (to 301 156) ?_ trivial ?_
      · by_cases h0 : i = 0
        · simp [Cod.enc, ints, mE_zero, to, h0, her, List.take_of_length_le]
          exact fun n hn e => by have : far = 1000 := rfl; omega
        · simp [Cod.enc, ints, mE_zero, to, h0, her, List.take_of_length_le]
          exact fun n hn e => by have : far = 1000 := rfl; omega
      intro r hr _
      have her := mE_len n.Cases (Cas.moved o) Cas.enc (i := r) (by omega)
      by_cases hlr : r < n.Cases.length
      · have hsr := mE_succ n.Cases (Cas.moved o) Cas.enc hlr
        have hx3 := ok3 _ (List.getElem_mem hlr)
        have hkr : ∃ u : Nat, ∃ g : u < o.length, n.Cases[r].Body = u ∧ (Cas.moved o n.Cases[r]).enc = [ints n.Cases[r].L, i64 o[u]] := by
          have hk := hkC n.Cases[r] (List.getElem_mem hlr)
          obtain ⟨u, hu⟩ : ∃ u : Nat, n.Cases[r].Body = u := ⟨n.Cases[r].Body.toNat, by omega⟩
          refine ⟨u, by omega, hu, ?_⟩
          have : ¬ (u : Int) = -1 := by omega
          simp [Cas.moved, Cas.enc, mvI, hu, this, show u < o.length by omega]
        obtain ⟨u, g, hu, hce⟩ := hkr
        simp [Nod.enc, hlr, ints, hu, g, Cas.enc]
        refine callD_intro (ts := [ints n.Cases[r].L]) (by simp [ints]) _ (rints_pure n.Cases[r].L (by omega)) (.inl (by rfl)) ?_
        simp [g, hlr, hu, Cas.enc, ints]
        refine reqD_intro ⟨by omega, by omega⟩ ?_
        simp
        rw [wr_id (by omega) (by omega)]
        refine up_next (to 301 201) hlr trivial ?_
        by_cases h0 : i = 0
        · simp [hsr, hce, to, List.take_of_length_le, her, Cod.enc, ints, h0]
          exact fun n hn e => by have : far = 1000 := rfl; omega
        · simp [hsr, hce, to, List.take_of_length_le, her, Cod.enc, ints, h0]
          exact fun n hn e => by have : far = 1000 := rfl; omega
      have hinr : r = n.Cases.length := by omega
      subst hinr
      by_cases h0 : i = 0
      · have hite : ∀ {α : Type} (a b : α), (if i = 0 then a else b) = a := fun a b => if_pos h0
        simp [hite, Nod.enc, ints]
        refine weak_intro same ⟨[(1, .ptr 1 0 0), (2, .ptr 2 0 0), (3, .t (ints w)), (7, .t (ints o)), (8, .ptr 8 0 0), (12, .t (i64 i)), (207, .t .nils), (208, .t (.agg (n.moved o).enc))], (1, .box (c.enc.map .t)) :: (2, .box [.t (.str ByteArray.empty), .t .nils, .t .nils, .t .nils]) :: (8, .box [.t (.str c.Name), .t (.lst 2 (mE c.Structs id Str.enc c.Structs.length)), .t (.lst 4 (mE c.Funcs (Fun.moved c) Fun.enc c.Funcs.length)), .t .nils]) :: []⟩ ?_ ?_
        · simp [Cod.enc, hfe, List.take_of_length_le, her, ints]
        simp [hfe]
        rw [wr_id (by omega) (by omega)]
        refine up_next (to 310 210) hl trivial ?_
        have hz : mE w (c.movedAt o) Nod.enc i = [] := by rw [h0]; rfl
        have hsu1 : mE w (c.movedAt o) Nod.enc 1 = [(n.moved o).enc] := by rw [hz] at hsu; rw [h0] at hsu; simpa using hsu
        simp [hsu1, hfe, to, Cod.enc, h0, ints]
        exact fun n hn e => by have : far = 1000 := rfl; omega
      · have hite : ∀ {α : Type} (a b : α), (if i = 0 then a else b) = b := fun a b => if_neg h0
        simp [hite, Nod.enc, ints]
        refine weak_intro same ⟨[(1, .ptr 1 0 0), (2, .ptr 2 0 0), (3, .t (ints w)), (7, .t (ints o)), (8, .ptr 8 0 0), (12, .t (i64 i)), (207, .slc 310 8 0 i), (208, .t (.agg (n.moved o).enc))], (1, .box (c.enc.map .t)) :: (2, .box [.t (.str ByteArray.empty), .t .nils, .t .nils, .t .nils]) :: (8, .box [.t (.str c.Name), .t (.lst 2 (mE c.Structs id Str.enc c.Structs.length)), .t (.lst 4 (mE c.Funcs (Fun.moved c) Fun.enc c.Funcs.length)), .slc 310 8 0 i]) :: [(310, .row 50 8 (mE w (c.movedAt o) Nod.enc i))]⟩ ?_ ?_
        · simp [Cod.enc, hfe, List.take_of_length_le, her, ints]
        simp [hfe]
        refine req_intro ⟨by omega, by omega⟩ ?_
        simp
        rw [wr_id (by omega) (by omega)]
        refine up_next (to 310 210) hl trivial ?_
        simp [hsu, hfe, to, List.take_of_length_le, hel, Cod.enc, ints]
        exact fun n hn e => by have : far = 1000 := rfl; omega
  have hin : i = w.length := by omega
  subst hin
  by_cases h0 : w = []
  · simp [Cod.enc, ints, h0, retR_v, mE_zero]
    exact leT_agg4 ..
  · have h1 : ¬ w.length = 0 := by simpa using h0
    simp [Cod.enc, ints, h1, h0, retR_v, List.take_of_length_le, hel]

end Go.Eng
