/- What the program's functions 27,23 compute (numbers of this seat): contracts, walked by the engine. -/
import Derived.Test.YthcogpecnmhhlaaEngU
import Derived.Test.YthcogpecnmhhlaaCodS
import Derived.Test.YthcogpecnmhhlaaProg
namespace Go.Eng
open Go Go.Proofs
set_option maxRecDepth 100000
set_option linter.all false
def c23 : Cd := (.seq (.reg [o1 2 (.box true 4 (.t 0)), o1 4 (.mv (.c (.bool false)))] false) (.seq (.reg [o1 15 (.fa 3 (.t 2)), o1 16 (.ld false 1 (.t 15)), o1 17 (.mv (.t 1)), o1 18 (.ia 8 (.t 16) (.t 17)), o1 19 (.ld true 8 (.t 18)), o1 5 (.new [.int .i64 0, .int .i64 0, .str ByteArray.empty, .int .i64 0, .int .i64 0, .int .i64 0, .nils, .nils]), o0 (.st 8 (.t 5) (.t 19))] false) (.seq (.reg [o1 20 (.fa 0 (.t 5)), o1 21 (.ld false 1 (.t 20)), o1 6 (.mv (.t 21))] false) (.seq (.reg [o1 22 (.mv (.t 6)), o1 23 (.bin .eql (.t 22) (cI 4)), o1 24 (.mv (.t 23)), og 25 24 false (.mv (.t 6)), og 26 24 false (.bin .eql (.t 25) (cI 8)), o1 27 (.pick (.t 24) (.c (.bool true)) (.t 26)), o1 28 (.mv (.t 27)), og 29 28 false (.mv (.t 6)), og 30 28 false (.bin .eql (.t 29) (cI 9)), o1 31 (.pick (.t 28) (.c (.bool true)) (.t 30)), o1 32 (.mv (.t 31)), og 33 32 false (.mv (.t 6)), og 34 32 false (.bin .eql (.t 33) (cI 10)), o1 35 (.pick (.t 32) (.c (.bool true)) (.t 34)), o1 36 (.mv (.t 35)), og 37 36 false (.mv (.t 6)), og 38 36 false (.bin .eql (.t 37) (cI 12)), o1 39 (.pick (.t 36) (.c (.bool true)) (.t 38)), o1 7 (.mv (.t 39))] false) (.seq (.seq (.reg [o1 40 (.mv (.t 6)), o1 41 (.bin .lss (.t 40) (cI 1)), o1 42 (.mv (.t 41)), og 43 42 false (.mv (.t 6)), og 44 42 false (.bin .gtr (.t 43) (cI 18)), o1 45 (.pick (.t 42) (.c (.bool true)) (.t 44)), o1 46 (.mv (.t 45)), og 47 46 false (.mv (.t 7)), og 48 46 false (.not (.t 47)), og 49 46 false (.mv (.t 48)), og 50 49 true (.fa 2 (.t 5)), og 51 49 true (.ld false 1 (.t 50)), og 52 49 true (.bin .neq (.t 51) (.c (.str ⟨#[]⟩))), og 53 46 false (.pick (.t 49) (.t 52) (.c (.bool false))), o1 54 (.pick (.t 46) (.c (.bool true)) (.t 53)), o1 55 (.mv (.t 54)), og 56 55 false (.mv (.t 6)), og 57 55 false (.bin .neq (.t 56) (cI 1)), og 58 55 false (.mv (.t 57)), og 59 58 true (.mv (.t 6)), og 60 58 true (.bin .neq (.t 59) (cI 2)), og 61 55 false (.pick (.t 58) (.t 60) (.c (.bool false))), og 62 55 false (.mv (.t 61)), og 63 62 true (.mv (.t 6)), og 64 62 true (.bin .neq (.t 63) (cI 7)), og 65 55 false (.pick (.t 62) (.t 64) (.c (.bool false))), og 66 55 false (.mv (.t 65)), og 67 66 true (.fa 1 (.t 5)), og 68 66 true (.ld false 1 (.t 67)), og 69 66 true (.bin .neq (.t 68) (cI 0)), og 70 55 false (.pick (.t 66) (.t 69) (.c (.bool false))), o1 71 (.pick (.t 55) (.c (.bool true)) (.t 70)), o1 72 (.mv (.t 71)), og 73 72 false (.mv (.t 6)), og 74 72 false (.bin .neq (.t 73) (cI 8)), og 75 72 false (.mv (.t 74)), og 76 75 true (.mv (.t 6)), og 77 75 true (.bin .neq (.t 76) (cI 11)), og 78 72 false (.pick (.t 75) (.t 77) (.c (.bool false))), og 79 72 false (.mv (.t 78)), og 80 79 true (.fa 6 (.t 5)), og 81 79 true (.ld false 1 (.t 80)), og 82 79 true (.len (.t 81)), og 83 79 true (.bin .gtr (.t 82) (cI 0)), og 84 72 false (.pick (.t 79) (.t 83) (.c (.bool false))), o1 85 (.pick (.t 72) (.c (.bool true)) (.t 84)), o1 86 (.mv (.t 85)), og 87 86 false (.mv (.t 6)), og 88 86 false (.bin .neq (.t 87) (cI 16)), og 89 86 false (.mv (.t 88)), og 90 89 true (.fa 7 (.t 5)), og 91 89 true (.ld false 1 (.t 90)), og 92 89 true (.len (.t 91)), og 93 89 true (.bin .gtr (.t 92) (cI 0)), og 94 86 false (.pick (.t 89) (.t 93) (.c (.bool false))), o1 95 (.pick (.t 86) (.c (.bool true)) (.t 94))] false) (.cond (.t 95) (.seq (.reg [o1 4 (.mv (.c (.bool false)))] false) .ret) .skip)) (.seq (.seq (.reg [o1 96 (.mv (.t 6)), o1 97 (.bin .eql (.t 96) (cI 1)), o1 98 (.mv (.t 97)), og 99 98 true (.fa 1 (.t 5)), og 100 98 true (.ld false 1 (.t 99)), og 101 98 true (.call 56 [(.t 100)]), og 102 98 true (.not (.t 101)), o1 103 (.pick (.t 98) (.t 102) (.c (.bool false))), o1 104 (.mv (.t 103)), og 105 104 false (.mv (.t 6)), og 106 104 false (.bin .eql (.t 105) (cI 2)), og 107 104 false (.mv (.t 106)), og 108 107 true (.fa 1 (.t 5)), og 109 107 true (.ld false 1 (.t 108)), og 110 107 true (.bin .neq (.t 109) (cI 0)), og 111 104 false (.pick (.t 107) (.t 110) (.c (.bool false))), og 112 104 false (.mv (.t 111)), og 113 112 true (.fa 1 (.t 5)), og 114 112 true (.ld false 1 (.t 113)), og 115 112 true (.bin .neq (.t 114) (cI 1)), og 116 104 false (.pick (.t 112) (.t 115) (.c (.bool false))), o1 117 (.pick (.t 104) (.c (.bool true)) (.t 116)), o1 118 (.mv (.t 117)), og 119 118 false (.mv (.t 6)), og 120 118 false (.bin .eql (.t 119) (cI 7)), og 121 118 false (.mv (.t 120)), og 122 121 true (.fa 1 (.t 5)), og 123 121 true (.ld false 1 (.t 122)), og 124 121 true (.bin .lss (.t 123) (cI 1)), og 125 121 true (.mv (.t 124)), og 126 125 false (.fa 1 (.t 5)), og 127 125 false (.ld false 1 (.t 126)), og 128 125 false (.bin .gtr (.t 127) (cI 9)), og 129 121 true (.pick (.t 125) (.c (.bool true)) (.t 128)), og 130 118 false (.pick (.t 121) (.t 129) (.c (.bool false))), o1 131 (.pick (.t 118) (.c (.bool true)) (.t 130))] false) (.cond (.t 131) (.seq (.reg [o1 4 (.mv (.c (.bool false)))] false) .ret) .skip)) (.seq (.reg [o1 8 (.mv (cI 0)), o1 9 (.mv (cI 0)), o1 10 (.mv (cI 0))] false) (.seq (.seq (.reg [o1 132 (.mv (.t 6))] false) (.blk 0 (.seq (.seq (.reg [o1 134 (.bin .eql (.t 132) (cI 5)), o1 133 (.mv (.t 134))] false) (.cond (.t 133) .skip (.seq (.reg [o1 135 (.bin .eql (.t 132) (cI 6)), o1 133 (.mv (.t 135))] false) (.cond (.t 133) .skip (.seq (.reg [o1 136 (.bin .eql (.t 132) (cI 9)), o1 133 (.mv (.t 136))] false) (.cond (.t 133) .skip (.seq (.reg [o1 137 (.bin .eql (.t 132) (cI 12)), o1 133 (.mv (.t 137))] false) (.cond (.t 133) .skip (.reg [o1 138 (.bin .eql (.t 132) (cI 17)), o1 133 (.mv (.t 138))] false))))))))) (.cond (.t 133) (.reg [o1 8 (.mv (cI 1))] false) (.seq (.reg [o1 140 (.bin .eql (.t 132) (cI 7)), o1 139 (.mv (.t 140))] false) (.cond (.t 139) (.reg [o1 8 (.mv (cI 1)), o1 9 (.mv (cI 1))] false) (.seq (.reg [o1 142 (.bin .eql (.t 132) (cI 13)), o1 141 (.mv (.t 142))] false) (.cond (.t 141) (.reg [o1 8 (.mv (cI 5)), o1 9 (.mv (cI 1))] false) (.seq (.reg [o1 144 (.bin .eql (.t 132) (cI 14)), o1 143 (.mv (.t 144))] false) (.cond (.t 143) (.reg [o1 8 (.mv (cI 1)), o1 9 (.mv (cI 2)), o1 10 (.mv (cI 4))] false) (.seq (.seq (.reg [o1 146 (.bin .eql (.t 132) (cI 15)), o1 145 (.mv (.t 146))] false) (.cond (.t 145) .skip (.reg [o1 147 (.bin .eql (.t 132) (cI 16)), o1 145 (.mv (.t 147))] false))) (.cond (.t 145) (.reg [o1 8 (.mv (cI 1)), o1 9 (.mv (cI 2))] false) (.seq (.reg [o1 149 (.bin .eql (.t 132) (cI 18)), o1 148 (.mv (.t 149))] false) (.cond (.t 148) (.reg [o1 8 (.mv (cI 6))] false) .skip)))))))))))))) (.seq (.seq (.reg [o1 150 (.mv (.t 8)), o1 151 (.bin .eql (.t 150) (cI 0)), o1 152 (.mv (.t 151)), og 153 152 true (.fa 3 (.t 5)), og 154 152 true (.ld false 1 (.t 153)), og 155 152 true (.bin .neq (.t 154) (cI (-1))), o1 156 (.pick (.t 152) (.t 155) (.c (.bool false))), o1 157 (.mv (.t 156)), og 158 157 false (.mv (.t 8)), og 159 157 false (.bin .gtr (.t 158) (cI 0)), og 160 157 false (.mv (.t 159)), og 161 160 true (.ld true 4 (.t 2)), og 162 160 true (.mv (.t 1)), og 163 160 true (.fa 3 (.t 5)), og 164 160 true (.ld false 1 (.t 163)), og 165 160 true (.mv (.t 8)), og 166 160 true (.mv (.t 6)), og 167 160 true (.bin .neq (.t 166) (cI 17)), og 168 160 true (.call 57 [(.t 161), (.t 162), (.t 164), (.t 165), (.t 167)]), og 169 160 true (.not (.t 168)), og 170 157 false (.pick (.t 160) (.t 169) (.c (.bool false))), o1 171 (.pick (.t 157) (.c (.bool true)) (.t 170)), o1 172 (.mv (.t 171)), og 173 172 false (.mv (.t 9)), og 174 172 false (.bin .eql (.t 173) (cI 0)), og 175 172 false (.mv (.t 174)), og 176 175 true (.fa 4 (.t 5)), og 177 175 true (.ld false 1 (.t 176)), og 178 175 true (.bin .neq (.t 177) (cI (-1))), og 179 172 false (.pick (.t 175) (.t 178) (.c (.bool false))), o1 180 (.pick (.t 172) (.c (.bool true)) (.t 179)), o1 181 (.mv (.t 180)), og 182 181 false (.mv (.t 9)), og 183 181 false (.bin .gtr (.t 182) (cI 0)), og 184 181 false (.mv (.t 183)), og 185 184 true (.ld true 4 (.t 2)), og 186 184 true (.mv (.t 1)), og 187 184 true (.fa 4 (.t 5)), og 188 184 true (.ld false 1 (.t 187)), og 189 184 true (.mv (.t 9)), og 190 184 true (.mv (.t 6)), og 191 184 true (.bin .neq (.t 190) (cI 16)), og 192 184 true (.call 57 [(.t 185), (.t 186), (.t 188), (.t 189), (.t 191)]), og 193 184 true (.not (.t 192)), og 194 181 false (.pick (.t 184) (.t 193) (.c (.bool false))), o1 195 (.pick (.t 181) (.c (.bool true)) (.t 194)), o1 196 (.mv (.t 195)), og 197 196 false (.mv (.t 10)), og 198 196 false (.bin .eql (.t 197) (cI 0)), og 199 196 false (.mv (.t 198)), og 200 199 true (.fa 5 (.t 5)), og 201 199 true (.ld false 1 (.t 200)), og 202 199 true (.bin .neq (.t 201) (cI (-1))), og 203 196 false (.pick (.t 199) (.t 202) (.c (.bool false))), o1 204 (.pick (.t 196) (.c (.bool true)) (.t 203)), o1 205 (.mv (.t 204)), og 206 205 false (.mv (.t 10)), og 207 205 false (.bin .gtr (.t 206) (cI 0)), og 208 205 false (.mv (.t 207)), og 209 208 true (.ld true 4 (.t 2)), og 210 208 true (.mv (.t 1)), og 211 208 true (.fa 5 (.t 5)), og 212 208 true (.ld false 1 (.t 211)), og 213 208 true (.mv (.t 10)), og 214 208 true (.call 57 [(.t 209), (.t 210), (.t 212), (.t 213), (.c (.bool false))]), og 215 208 true (.not (.t 214)), og 216 205 false (.pick (.t 208) (.t 215) (.c (.bool false))), o1 217 (.pick (.t 205) (.c (.bool true)) (.t 216))] false) (.cond (.t 217) (.seq (.reg [o1 4 (.mv (.c (.bool false)))] false) .ret) .skip)) (.seq (.seq (.reg [o1 11 (.mv (cI 0))] false) (.blk 1 (.loop (.seq (.seq (.reg [o1 218 (.mv (.t 11)), o1 219 (.fa 6 (.t 5)), o1 220 (.ld false 1 (.t 219)), o1 221 (.len (.t 220)), o1 222 (.bin .lss (.t 218) (.t 221))] false) (.cond (.t 222) .skip (.exit 1))) (.seq (.blk 2 (.seq (.reg [o1 12 (.mv (cI 1))] false) (.seq (.seq (.reg [o1 225 (.mv (.t 6)), o1 226 (.bin .eql (.t 225) (cI 11))] false) (.cond (.t 226) (.reg [o1 12 (.mv (cI 3))] false) .skip)) (.seq (.reg [oa 227 [] (.ld true 4 (.t 2)), oa 228 [] (.mv (.t 1)), oa 229 [] (.fa 6 (.t 5)), oa 230 [2] (.ld false 1 (.t 229)), oa 231 [] (.mv (.t 11)), oa 232 [3, 4] (.ia 1 (.t 230) (.t 231)), oa 233 [5] (.ld false 1 (.t 232)), oa 234 [] (.mv (.t 12)), oa 235 [0, 1, 6, 7] (.callw 57 [(.t 227), (.t 228), (.t 233), (.t 234), (.c (.bool true))]), oa 236 [8] (.not (.t 235))] true) (.cond (.t 236) (.seq (.reg [o1 4 (.mv (.c (.bool false)))] false) .ret) .skip))))) (.reg [o1 223 (.mv (.t 11)), o1 224 (.bin .add (.t 223) (cI 1)), o1 11 (.mv (.t 224))] false)))))) (.seq (.seq (.reg [o1 13 (.mv (cI 0))] false) (.blk 3 (.loop (.seq (.seq (.reg [o1 237 (.mv (.t 13)), o1 238 (.fa 7 (.t 5)), o1 239 (.ld false 1 (.t 238)), o1 240 (.len (.t 239)), o1 241 (.bin .lss (.t 237) (.t 240))] false) (.cond (.t 241) .skip (.exit 3))) (.seq (.blk 4 (.seq (.seq (.reg [oa 244 [] (.fa 7 (.t 5)), oa 245 [0] (.ld false 1 (.t 244)), oa 246 [] (.mv (.t 13)), oa 247 [1, 2] (.ia 2 (.t 245) (.t 246)), oa 248 [3] (.fa 0 (.t 247)), oa 249 [4] (.ld false 1 (.t 248)), oa 250 [5] (.len (.t 249)), oa 251 [6] (.bin .eql (.t 250) (cI 0)), oa 252 [7] (.mv (.t 251)), oga 253 252 false [8] (.ld true 4 (.t 2)), oga 254 252 false [8] (.mv (.t 1)), oga 255 252 false [8] (.fa 7 (.t 5)), oga 256 252 false [11, 8] (.ld false 1 (.t 255)), oga 257 252 false [8] (.mv (.t 13)), oga 258 252 false [12, 13, 8] (.ia 2 (.t 256) (.t 257)), oga 259 252 false [14, 8] (.fa 1 (.t 258)), oga 260 252 false [15, 8] (.ld false 1 (.t 259)), oga 261 252 false [9, 10, 16, 8, 8] (.callw 57 [(.t 253), (.t 254), (.t 260), (cI 2), (.c (.bool true))]), oga 262 252 false [17, 8] (.not (.t 261)), oa 263 [8, 18] (.pick (.t 252) (.c (.bool true)) (.t 262))] true) (.cond (.t 263) (.seq (.reg [o1 4 (.mv (.c (.bool false)))] false) .ret) .skip)) (.seq (.reg [o1 14 (.mv (cI 0))] false) (.blk 5 (.loop (.seq (.seq (.reg [o1 264 (.mv (.t 14)), o1 265 (.fa 7 (.t 5)), o1 266 (.ld false 1 (.t 265)), o1 267 (.mv (.t 13)), o1 268 (.ia 2 (.t 266) (.t 267)), o1 269 (.fa 0 (.t 268)), o1 270 (.ld false 1 (.t 269)), o1 271 (.len (.t 270)), o1 272 (.bin .lss (.t 264) (.t 271))] false) (.cond (.t 272) .skip (.exit 5))) (.seq (.blk 6 (.seq (.reg [o1 275 (.fa 7 (.t 5)), o1 276 (.ld false 1 (.t 275)), o1 277 (.mv (.t 13)), o1 278 (.ia 2 (.t 276) (.t 277)), o1 279 (.fa 0 (.t 278)), o1 280 (.ld false 1 (.t 279)), o1 281 (.mv (.t 14)), o1 282 (.ia 1 (.t 280) (.t 281)), o1 283 (.ld false 1 (.t 282)), o1 284 (.call 56 [(.t 283)]), o1 285 (.not (.t 284))] false) (.cond (.t 285) (.seq (.reg [o1 4 (.mv (.c (.bool false)))] false) .ret) .skip))) (.reg [o1 273 (.mv (.t 14)), o1 274 (.bin .add (.t 273) (cI 1)), o1 14 (.mv (.t 274))] false)))))))) (.reg [o1 242 (.mv (.t 13)), o1 243 (.bin .add (.t 242) (cI 1)), o1 13 (.mv (.t 243))] false)))))) (.seq (.reg [o1 4 (.mv (.c (.bool true)))] false) .ret))))))))))))
theorem tr23 : tr Try.prog (Try.f23.body.getD .skip) = some c23 := by kernel_rfl
def c27 : Cd := (.seq (.reg [o1 3 (.box true 4 (.t 0)), o1 6 (.mv (.c (.nils)))] false) (.seq (.reg [o1 9 (.mv (.t 2)), o1 10 (.mv (.t 1)), o1 11 (.bs 3 1 1 [(.t 10)]), o1 12 (.app 3 1 8 (.t 9) (.t 11)), o1 2 (.mv (.t 12))] false) (.seq (.reg [o1 13 (.fa 3 (.t 3)), o1 14 (.ld false 1 (.t 13)), o1 15 (.mv (.t 1)), o1 16 (.ia 8 (.t 14) (.t 15)), o1 17 (.ld true 8 (.t 16)), o1 18 (.call 24 [(.t 17)]), o1 7 (.mv (.t 18))] false) (.seq (.seq (.reg [o1 8 (.mv (cI 0))] false) (.blk 0 (.loop (.seq (.seq (.reg [o1 19 (.mv (.t 8)), o1 20 (.mv (.t 7)), o1 21 (.len (.t 20)), o1 22 (.bin .lss (.t 19) (.t 21))] false) (.cond (.t 22) .skip (.exit 0))) (.seq (.blk 1 (.reg [oa 25 [] (.ld true 4 (.t 3)), oa 26 [] (.mv (.t 7)), oa 27 [] (.mv (.t 8)), oa 28 [1, 2] (.ia 1 (.t 26) (.t 27)), oa 29 [3] (.ld false 1 (.t 28)), oa 30 [] (.mv (.t 2)), oa 31 [0, 4, 5] (.callw 27 [(.t 25), (.t 29), (.t 30)]), oa 2 [6, 6, 0, 1, 2, 3, 4, 5, 6] (.mv (.t 31))] true)) (.reg [o1 23 (.mv (.t 8)), o1 24 (.bin .add (.t 23) (cI 1)), o1 8 (.mv (.t 24))] false)))))) (.seq (.reg [o1 32 (.mv (.t 2)), o1 6 (.mv (.t 32))] false) .ret)))))
theorem tr27 : tr Try.prog (Try.f27.body.getD .skip) = some c27 := by kernel_rfl
set_option maxHeartbeats 2000000
attribute [local simp] cut spl one fillT
theorem below_eff (c : Cod) (ok : c.Ok) (hkr : ∀ j (h : j < c.L.length), ∀ k ∈ c.L[j].kids, (j : Int) < k ∧ k < c.L.length) : ∀ (f i : Nat) (d : Nat) (l : List Int), d < far → c.L.length ≤ i + f → i < c.L.length → l.length + (c.pre f i).length ≤ 1000000000 →
    Eff Try.prog 27 [.t (.agg c.enc), .t (i64 i), .slc far 1 0 l.length] [(far, .row 3 1 (row l))] (.slc d 1 0 (l.length + (c.pre f i).length)) [(d, .row 3 1 (row (l ++ c.pre f i)))] := by
  intro f
  induction f with
  | zero => intro i d l _ h1 h2; omega
  | succ f ih =>
    intro i d l hd h1 h2 hn
    refine walk_eff mo Try.func27 tr27 (rs := [.tmp 6]) (by rfl) (by rfl) ?_
    unfold c27
    have hpre : c.pre (f + 1) i = (i : Int) :: c.forest f c.L[i].kids := by
      rw [Cod.pre, Int.toNat_natCast, List.getElem?_eq_getElem h2]; rfl
    rw [hpre] at hn ⊢
    rw [List.length_cons] at hn
    obtain ⟨ho1, ho2, _⟩ := ok.n _ (List.getElem_mem h2)
    have hk := hkr i h2
    have hkl := kids_len c.L[i]
    simp [parV, Cod.enc, row, h2, Nod.enc, ints]
    refine req_intro (by omega) ?_
    simp [Cod.enc, h2, Nod.enc, ints]
    refine call_t (ts := [.agg c.L[i].enc]) _ (rkids_pure c.L[i] ho1 ho2) (by simp) ?_
    generalize hK : c.L[i].kids = K at *
    have hKl : K.length ≤ 2000000003 := by omega
    simp [ints]
    refine loop_up K.length (fun j => ⟨[(2, .slc 112 1 0 (l.length + 1 + (c.forest f (K.take j)).length)), (3, .ptr 3 0 0), (7, .t (ints K)), (8, .t (i64 j))], [(112, .row 3 1 (row (l ++ (i : Int) :: c.forest f (K.take j)))), (3, .box (c.enc.map .t))]⟩) (fun _ => True) (to 112 12) ?_ trivial ?_
    · simp [row, Cod.enc, ints, to, List.take_of_length_le, forest_nil]
      exact fun n hn e => by have : far = 1000 := rfl; omega
    · intro j hj _
      by_cases hjl : j < K.length
      · obtain ⟨hk1, hk2⟩ := hk K[j] (List.getElem_mem hjl)
        obtain ⟨m, hm⟩ : ∃ m : Nat, K[j] = m := ⟨K[j].toNat, by omega⟩
        have hml : m < c.L.length := by omega
        have hnx := forest_next c f K j hjl
        have hle := forest_le c f K (j + 1)
        rw [hm] at hnx
        rw [hnx, List.length_append] at hle
        generalize hA : c.forest f (K.take j) = A at *
        simp [ints, hjl, hm, Cod.enc]
        have hE := ih m 31 (l ++ (i : Int) :: A) (by decide) (by omega) hml (by rw [List.length_append, List.length_cons]; omega)
        rw [show (l ++ (i : Int) :: A).length = l.length + 1 + A.length by rw [List.length_append, List.length_cons]; omega] at hE
        refine mover_intro 112 hE (by simp [Cod.enc]) (by rfl) (by simp [row]) (by simp) ?_
        simp
        rw [wr_id (n := (j : Int) + 1) (by omega) (by omega)]
        refine up_next (to 112 31) hjl trivial ?_
        simp [hnx, row, ints, to, Cod.enc]
        exact ⟨by omega, fun n hn e => by have : far = 1000 := rfl; omega⟩
      · have : j = K.length := by omega
        subst this
        rw [List.take_length]
        simp [ints]
        refine (retE_ret (to d 112) rfl (to_far hd) ?_ ?_ ?_ ?_ ?_).1 <;> simp [V.all, V.allL, Ob.all, okN, row]
        omega
theorem childR_must (c : Cod) {pl : Int} (hpl : 0 ≤ pl) (i w : Int) : c.childR pl i w true = c.child pl i (isB · w) := by
  unfold Cod.childR
  by_cases h : i = -1
  · rw [if_pos h]; simp [Cod.child, h]; omega
  · rw [if_neg h]
theorem childR_some (c : Cod) (pl i w : Int) : c.childR pl i w false = c.some pl i (isB · w) := by
  unfold Cod.childR Cod.some
  by_cases h : i = -1 <;> simp [h]
theorem isB1 : (fun x => isB x 1) = exprB := by funext x; simp [isB]
theorem isB2 : (fun x => isB x 2) = blockB := by funext x; simp [isB]
theorem isB3 : (fun x => isB x 3) = stmtB := by funext x; simp [isB]
theorem isB4 : (fun x => isB x 4) = otherB := by funext x; simp [isB]
theorem isB5 : (fun x => isB x 5) = placeB := by funext x; simp [isB]
theorem isB6 : (fun x => isB x 6) = callB := by funext x; simp [isB]
theorem empty_iff (s : ByteArray) : s.toList.isEmpty = decide (s = ByteArray.empty) := by
  rw [← str_beq]
  have : ByteArray.empty.toList = [] := by rw [ByteArray.toList_eq]; rfl
  rw [this]
  cases s.toList <;> rfl
theorem rright_pure (c : Cod) (ok : c.Ok) (at_ : Nat) (h : at_ < c.L.length) : Pure Try.prog 23 [.agg c.enc, i64 at_] (.bool (c.L[at_].plain && c.kindRight at_ c.L[at_])) := by
  refine walk_of mo Try.func23 tr23 (rs := [.tmp 4]) (by rfl) (by rfl) ?_
  unfold c23
  obtain ⟨o1, o2, o3⟩ := ok.n _ (List.getElem_mem h)
  generalize hn : c.L[at_] = n at *
  have hpl : (0 : Int) ≤ at_ := by omega
  simp [Cod.enc, h, hn, Nod.enc, ints]
  by_cases h1 : n.Kind < 1
  · have k : (n.plain && c.kindRight at_ n) = false := by
      have e : ¬ (n.Kind = 1 ∨ n.Kind = 2 ∨ n.Kind = 3 ∨ n.Kind = 4 ∨ n.Kind = 10) := by omega
      have e2 : ¬ (n.Kind = 5 ∨ n.Kind = 6 ∨ n.Kind = 9 ∨ n.Kind = 12) := by omega
      simp only [Cod.kindRight, e, e2, if_false, show ¬ n.Kind = 7 by omega, show ¬ n.Kind = 8 by omega, show ¬ n.Kind = 11 by omega, show ¬ n.Kind = 13 by omega, show ¬ n.Kind = 14 by omega, show ¬ n.Kind = 15 by omega, show ¬ n.Kind = 16 by omega, show ¬ n.Kind = 17 by omega, show ¬ n.Kind = 18 by omega, Bool.and_false]
    simp [h1, k, show ¬ n.Kind = 4 by omega, show ¬ n.Kind = 8 by omega, show ¬ n.Kind = 9 by omega, show ¬ n.Kind = 10 by omega, show ¬ n.Kind = 12 by omega]
  by_cases h2 : 18 < n.Kind
  · have k : (n.plain && c.kindRight at_ n) = false := by
      have e : ¬ (n.Kind = 1 ∨ n.Kind = 2 ∨ n.Kind = 3 ∨ n.Kind = 4 ∨ n.Kind = 10) := by omega
      have e2 : ¬ (n.Kind = 5 ∨ n.Kind = 6 ∨ n.Kind = 9 ∨ n.Kind = 12) := by omega
      simp only [Cod.kindRight, e, e2, if_false, show ¬ n.Kind = 7 by omega, show ¬ n.Kind = 8 by omega, show ¬ n.Kind = 11 by omega, show ¬ n.Kind = 13 by omega, show ¬ n.Kind = 14 by omega, show ¬ n.Kind = 15 by omega, show ¬ n.Kind = 16 by omega, show ¬ n.Kind = 17 by omega, show ¬ n.Kind = 18 by omega, Bool.and_false]
    simp [h1, h2, k, show ¬ n.Kind = 4 by omega, show ¬ n.Kind = 8 by omega, show ¬ n.Kind = 9 by omega, show ¬ n.Kind = 10 by omega, show ¬ n.Kind = 12 by omega]
  have hk : n.Kind = 1 ∨ n.Kind = 2 ∨ n.Kind = 3 ∨ n.Kind = 4 ∨ n.Kind = 5 ∨ n.Kind = 6 ∨ n.Kind = 7 ∨ n.Kind = 8 ∨ n.Kind = 9 ∨ n.Kind = 10 ∨ n.Kind = 11 ∨ n.Kind = 12 ∨ n.Kind = 13 ∨ n.Kind = 14 ∨ n.Kind = 15 ∨ n.Kind = 16 ∨ n.Kind = 17 ∨ n.Kind = 18 := by omega
  clear h1 h2
  rcases hk with e | e | e | e | e | e | e | e | e | e | e | e | e | e | e | e | e | e
  · by_cases cn : n.Name = ByteArray.empty
    · by_cases cL : n.L = []
      · by_cases cC : n.Cases = []
        · by_cases cN : numB n.N = true
          · have hplain : n.plain = true := by simp [Nod.plain, Nod.named, empty_iff, e, e, cn, cL, cC, cN]
            rw [hplain, Bool.true_and]
            simp [e, cn, cL, cC, cN]
            refine call_t (ts := [i64 n.N]) _ (rnum_pure n.N) (by simp) ?_
            simp [cN]
            by_cases zA : n.A = -1
            · simp [zA]
              by_cases zB : n.B = -1
              · simp [zB]
                by_cases zC : n.C = -1
                · simp [zC]
                  refine loop_up 0 (fun i => ⟨[(1, .t (i64 at_)), (2, .ptr 2 0 0), (5, .ptr 5 0 0), (6, .t (i64 n.Kind)), (11, .t (i64 i))], [(2, .box (c.enc.map .t)), (5, .box (n.enc.map .t))]⟩) (fun _ => True) same ?_ trivial ?_
                  · simp [Nod.enc, Cod.enc, ints, e, cn, cL, cC, cN, zA, zB, zC]
                  · intro i hi _
                    have : i = 0 := by omega
                    subst this
                    simp [Nod.enc, Cod.enc, ints, e, cn, cL, cC, cN, zA, zB, zC]
                    refine loop_up 0 (fun i => ⟨[(1, .t (i64 at_)), (2, .ptr 2 0 0), (5, .ptr 5 0 0), (6, .t (i64 n.Kind)), (13, .t (i64 i))], [(2, .box (c.enc.map .t)), (5, .box (n.enc.map .t))]⟩) (fun _ => True) same ?_ trivial ?_
                    · simp [Nod.enc, Cod.enc, ints, e, cn, cL, cC, cN, zA, zB, zC]
                    · intro i hi _
                      have : i = 0 := by omega
                      subst this
                      simp [Nod.enc, Cod.enc, ints, e, cn, cL, cC, cN, zA, zB, zC]
                      simp [Cod.kindRight, e, noneB, zA, zB, zC]
                · simp [zC, Cod.kindRight, e, noneB, zA, zB]
              · simp [zB, Cod.kindRight, e, noneB, zA]
            · simp [zA, Cod.kindRight, e, noneB]
          · have cN' : numB n.N = false := by simpa using cN
            simp [e, cn, cL, cC, cN', Nod.plain, Nod.named, empty_iff, e]
            refine call_t (ts := [i64 n.N]) _ (rnum_pure n.N) (by simp) ?_
            simp [cN']
        · have cC' := List.length_pos_iff.2 cC
          simp [e, cn, cL, cC, cC', Nod.plain, Nod.named, empty_iff, e]
      · have cL' := List.length_pos_iff.2 cL
        simp [e, cn, cL, cL', Nod.plain, Nod.named, empty_iff, e]
    · simp [e, cn, Nod.plain, Nod.named, empty_iff, e]
  · by_cases cn : n.Name = ByteArray.empty
    · by_cases cL : n.L = []
      · by_cases cC : n.Cases = []
        · by_cases cN : (n.N = 0 ∨ n.N = 1)
          · have hplain : n.plain = true := by simp [Nod.plain, Nod.named, empty_iff, e, e, cn, cL, cC, cN]
            rw [hplain, Bool.true_and]
            have q2 : ¬ (¬ n.N = 0 ∧ ¬ n.N = 1) := by omega
            rcases cN with cN | cN
            all_goals
              simp [e, cn, cL, cC, cN]
              by_cases zA : n.A = -1
              · simp [zA]
                by_cases zB : n.B = -1
                · simp [zB]
                  by_cases zC : n.C = -1
                  · simp [zC]
                    refine loop_up 0 (fun i => ⟨[(1, .t (i64 at_)), (2, .ptr 2 0 0), (5, .ptr 5 0 0), (6, .t (i64 n.Kind)), (11, .t (i64 i))], [(2, .box (c.enc.map .t)), (5, .box (n.enc.map .t))]⟩) (fun _ => True) same ?_ trivial ?_
                    · simp [Nod.enc, Cod.enc, ints, e, cn, cL, cC, cN, zA, zB, zC]
                    · intro i hi _
                      have : i = 0 := by omega
                      subst this
                      simp [Nod.enc, Cod.enc, ints, e, cn, cL, cC, cN, zA, zB, zC]
                      refine loop_up 0 (fun i => ⟨[(1, .t (i64 at_)), (2, .ptr 2 0 0), (5, .ptr 5 0 0), (6, .t (i64 n.Kind)), (13, .t (i64 i))], [(2, .box (c.enc.map .t)), (5, .box (n.enc.map .t))]⟩) (fun _ => True) same ?_ trivial ?_
                      · simp [Nod.enc, Cod.enc, ints, e, cn, cL, cC, cN, zA, zB, zC]
                      · intro i hi _
                        have : i = 0 := by omega
                        subst this
                        simp [Nod.enc, Cod.enc, ints, e, cn, cL, cC, cN, zA, zB, zC]
                        simp [Cod.kindRight, e, noneB, zA, zB, zC]
                  · simp [zC, Cod.kindRight, e, noneB, zA, zB]
                · simp [zB, Cod.kindRight, e, noneB, zA]
              · simp [zA, Cod.kindRight, e, noneB]
          · have q3 : ¬ n.N = 0 := fun q => cN (.inl q)
            have q4 : ¬ n.N = 1 := fun q => cN (.inr q)
            simp [e, cn, cL, cC, q3, q4, Nod.plain, Nod.named, empty_iff, e]
        · have cC' := List.length_pos_iff.2 cC
          simp [e, cn, cL, cC, cC', Nod.plain, Nod.named, empty_iff, e]
      · have cL' := List.length_pos_iff.2 cL
        simp [e, cn, cL, cL', Nod.plain, Nod.named, empty_iff, e]
    · simp [e, cn, Nod.plain, Nod.named, empty_iff, e]
  · by_cases cn : n.Name = ByteArray.empty
    · by_cases cN : n.N = 0
      · by_cases cL : n.L = []
        · by_cases cC : n.Cases = []
          · have hplain : n.plain = true := by simp [Nod.plain, Nod.named, empty_iff, e, e, cn, cN, cL, cC]
            rw [hplain, Bool.true_and]
            simp [e, cn, cN, cL, cC]
            by_cases zA : n.A = -1
            · simp [zA]
              by_cases zB : n.B = -1
              · simp [zB]
                by_cases zC : n.C = -1
                · simp [zC]
                  refine loop_up 0 (fun i => ⟨[(1, .t (i64 at_)), (2, .ptr 2 0 0), (5, .ptr 5 0 0), (6, .t (i64 n.Kind)), (11, .t (i64 i))], [(2, .box (c.enc.map .t)), (5, .box (n.enc.map .t))]⟩) (fun _ => True) same ?_ trivial ?_
                  · simp [Nod.enc, Cod.enc, ints, e, cn, cN, cL, cC, zA, zB, zC]
                  · intro i hi _
                    have : i = 0 := by omega
                    subst this
                    simp [Nod.enc, Cod.enc, ints, e, cn, cN, cL, cC, zA, zB, zC]
                    refine loop_up 0 (fun i => ⟨[(1, .t (i64 at_)), (2, .ptr 2 0 0), (5, .ptr 5 0 0), (6, .t (i64 n.Kind)), (13, .t (i64 i))], [(2, .box (c.enc.map .t)), (5, .box (n.enc.map .t))]⟩) (fun _ => True) same ?_ trivial ?_
                    · simp [Nod.enc, Cod.enc, ints, e, cn, cN, cL, cC, zA, zB, zC]
                    · intro i hi _
                      have : i = 0 := by omega
                      subst this
                      simp [Nod.enc, Cod.enc, ints, e, cn, cN, cL, cC, zA, zB, zC]
                      simp [Cod.kindRight, e, noneB, zA, zB, zC]
                · simp [zC, Cod.kindRight, e, noneB, zA, zB]
              · simp [zB, Cod.kindRight, e, noneB, zA]
            · simp [zA, Cod.kindRight, e, noneB]
          · have cC' := List.length_pos_iff.2 cC
            simp [e, cn, cN, cL, cC, cC', Nod.plain, Nod.named, empty_iff, e]
        · have cL' := List.length_pos_iff.2 cL
          simp [e, cn, cN, cL, cL', Nod.plain, Nod.named, empty_iff, e]
      · simp [e, cn, cN, Nod.plain, Nod.named, empty_iff, e]
    · simp [e, cn, Nod.plain, Nod.named, empty_iff, e]
  · by_cases cN : n.N = 0
    · by_cases cL : n.L = []
      · by_cases cC : n.Cases = []
        · have hplain : n.plain = true := by simp [Nod.plain, Nod.named, empty_iff, e, e, cN, cL, cC]
          rw [hplain, Bool.true_and]
          simp [e, cN, cL, cC]
          by_cases zA : n.A = -1
          · simp [zA]
            by_cases zB : n.B = -1
            · simp [zB]
              by_cases zC : n.C = -1
              · simp [zC]
                refine loop_up 0 (fun i => ⟨[(1, .t (i64 at_)), (2, .ptr 2 0 0), (5, .ptr 5 0 0), (6, .t (i64 n.Kind)), (11, .t (i64 i))], [(2, .box (c.enc.map .t)), (5, .box (n.enc.map .t))]⟩) (fun _ => True) same ?_ trivial ?_
                · simp [Nod.enc, Cod.enc, ints, e, cN, cL, cC, zA, zB, zC]
                · intro i hi _
                  have : i = 0 := by omega
                  subst this
                  simp [Nod.enc, Cod.enc, ints, e, cN, cL, cC, zA, zB, zC]
                  refine loop_up 0 (fun i => ⟨[(1, .t (i64 at_)), (2, .ptr 2 0 0), (5, .ptr 5 0 0), (6, .t (i64 n.Kind)), (13, .t (i64 i))], [(2, .box (c.enc.map .t)), (5, .box (n.enc.map .t))]⟩) (fun _ => True) same ?_ trivial ?_
                  · simp [Nod.enc, Cod.enc, ints, e, cN, cL, cC, zA, zB, zC]
                  · intro i hi _
                    have : i = 0 := by omega
                    subst this
                    simp [Nod.enc, Cod.enc, ints, e, cN, cL, cC, zA, zB, zC]
                    simp [Cod.kindRight, e, noneB, zA, zB, zC]
              · simp [zC, Cod.kindRight, e, noneB, zA, zB]
            · simp [zB, Cod.kindRight, e, noneB, zA]
          · simp [zA, Cod.kindRight, e, noneB]
        · have cC' := List.length_pos_iff.2 cC
          simp [e, cN, cL, cC, cC', Nod.plain, Nod.named, empty_iff, e]
      · have cL' := List.length_pos_iff.2 cL
        simp [e, cN, cL, cL', Nod.plain, Nod.named, empty_iff, e]
    · simp [e, cN, Nod.plain, Nod.named, empty_iff, e]
  · by_cases cn : n.Name = ByteArray.empty
    · by_cases cN : n.N = 0
      · by_cases cL : n.L = []
        · by_cases cC : n.Cases = []
          · have hplain : n.plain = true := by simp [Nod.plain, Nod.named, empty_iff, e, e, cn, cN, cL, cC]
            rw [hplain, Bool.true_and]
            simp [e, cn, cN, cL, cC]
            refine call_t (ts := [.agg c.enc, i64 at_, i64 n.A, i64 1, .bool true]) _ (rchild_pure c at_ n.A 1 true (by omega) ok.l) (by simp) ?_
            rw [childR_must c hpl n.A 1, isB1]
            cases yA : c.child at_ n.A exprB with
            | false => simp [yA, Cod.kindRight, e, noneB]
            | true =>
              simp
              by_cases zB : n.B = -1
              · simp [zB]
                by_cases zC : n.C = -1
                · simp [zC]
                  refine loop_up 0 (fun i => ⟨[(1, .t (i64 at_)), (2, .ptr 2 0 0), (5, .ptr 5 0 0), (6, .t (i64 n.Kind)), (11, .t (i64 i))], [(2, .box (c.enc.map .t)), (5, .box (n.enc.map .t))]⟩) (fun _ => True) same ?_ trivial ?_
                  · simp [Nod.enc, Cod.enc, ints, e, cn, cN, cL, cC, zB, zC]
                  · intro i hi _
                    have : i = 0 := by omega
                    subst this
                    simp [Nod.enc, Cod.enc, ints, e, cn, cN, cL, cC, zB, zC]
                    refine loop_up 0 (fun i => ⟨[(1, .t (i64 at_)), (2, .ptr 2 0 0), (5, .ptr 5 0 0), (6, .t (i64 n.Kind)), (13, .t (i64 i))], [(2, .box (c.enc.map .t)), (5, .box (n.enc.map .t))]⟩) (fun _ => True) same ?_ trivial ?_
                    · simp [Nod.enc, Cod.enc, ints, e, cn, cN, cL, cC, zB, zC]
                    · intro i hi _
                      have : i = 0 := by omega
                      subst this
                      simp [Nod.enc, Cod.enc, ints, e, cn, cN, cL, cC, zB, zC]
                      simp [Cod.kindRight, e, noneB, yA, zB, zC]
                · simp [zC, Cod.kindRight, e, noneB, yA, zB]
              · simp [zB, Cod.kindRight, e, noneB, yA]
          · have cC' := List.length_pos_iff.2 cC
            simp [e, cn, cN, cL, cC, cC', Nod.plain, Nod.named, empty_iff, e]
        · have cL' := List.length_pos_iff.2 cL
          simp [e, cn, cN, cL, cL', Nod.plain, Nod.named, empty_iff, e]
      · simp [e, cn, cN, Nod.plain, Nod.named, empty_iff, e]
    · simp [e, cn, Nod.plain, Nod.named, empty_iff, e]
  · by_cases cn : n.Name = ByteArray.empty
    · by_cases cN : n.N = 0
      · by_cases cL : n.L = []
        · by_cases cC : n.Cases = []
          · have hplain : n.plain = true := by simp [Nod.plain, Nod.named, empty_iff, e, e, cn, cN, cL, cC]
            rw [hplain, Bool.true_and]
            simp [e, cn, cN, cL, cC]
            refine call_t (ts := [.agg c.enc, i64 at_, i64 n.A, i64 1, .bool true]) _ (rchild_pure c at_ n.A 1 true (by omega) ok.l) (by simp) ?_
            rw [childR_must c hpl n.A 1, isB1]
            cases yA : c.child at_ n.A exprB with
            | false => simp [yA, Cod.kindRight, e, noneB]
            | true =>
              simp
              by_cases zB : n.B = -1
              · simp [zB]
                by_cases zC : n.C = -1
                · simp [zC]
                  refine loop_up 0 (fun i => ⟨[(1, .t (i64 at_)), (2, .ptr 2 0 0), (5, .ptr 5 0 0), (6, .t (i64 n.Kind)), (11, .t (i64 i))], [(2, .box (c.enc.map .t)), (5, .box (n.enc.map .t))]⟩) (fun _ => True) same ?_ trivial ?_
                  · simp [Nod.enc, Cod.enc, ints, e, cn, cN, cL, cC, zB, zC]
                  · intro i hi _
                    have : i = 0 := by omega
                    subst this
                    simp [Nod.enc, Cod.enc, ints, e, cn, cN, cL, cC, zB, zC]
                    refine loop_up 0 (fun i => ⟨[(1, .t (i64 at_)), (2, .ptr 2 0 0), (5, .ptr 5 0 0), (6, .t (i64 n.Kind)), (13, .t (i64 i))], [(2, .box (c.enc.map .t)), (5, .box (n.enc.map .t))]⟩) (fun _ => True) same ?_ trivial ?_
                    · simp [Nod.enc, Cod.enc, ints, e, cn, cN, cL, cC, zB, zC]
                    · intro i hi _
                      have : i = 0 := by omega
                      subst this
                      simp [Nod.enc, Cod.enc, ints, e, cn, cN, cL, cC, zB, zC]
                      simp [Cod.kindRight, e, noneB, yA, zB, zC]
                · simp [zC, Cod.kindRight, e, noneB, yA, zB]
              · simp [zB, Cod.kindRight, e, noneB, yA]
          · have cC' := List.length_pos_iff.2 cC
            simp [e, cn, cN, cL, cC, cC', Nod.plain, Nod.named, empty_iff, e]
        · have cL' := List.length_pos_iff.2 cL
          simp [e, cn, cN, cL, cL', Nod.plain, Nod.named, empty_iff, e]
      · simp [e, cn, cN, Nod.plain, Nod.named, empty_iff, e]
    · simp [e, cn, Nod.plain, Nod.named, empty_iff, e]
  · by_cases cn : n.Name = ByteArray.empty
    · by_cases cL : n.L = []
      · by_cases cC : n.Cases = []
        · by_cases cN : ¬ n.N < 1
          · have cN' : 1 ≤ n.N := by omega
            by_cases cM : ¬ 9 < n.N
            · have cM' : n.N ≤ 9 := by omega
              have hplain : n.plain = true := by simp [Nod.plain, Nod.named, empty_iff, e, e, cn, cL, cC, cN, cN', cM, cM']
              rw [hplain, Bool.true_and]
              simp [e, cn, cL, cC, cN, cN', cM, cM']
              refine call_t (ts := [.agg c.enc, i64 at_, i64 n.A, i64 1, .bool true]) _ (rchild_pure c at_ n.A 1 true (by omega) ok.l) (by simp) ?_
              rw [childR_must c hpl n.A 1, isB1]
              cases yA : c.child at_ n.A exprB with
              | false => simp [yA, Cod.kindRight, e, noneB]
              | true =>
                simp
                refine call_t (ts := [.agg c.enc, i64 at_, i64 n.B, i64 1, .bool true]) _ (rchild_pure c at_ n.B 1 true (by omega) ok.l) (by simp) ?_
                rw [childR_must c hpl n.B 1, isB1]
                cases yB : c.child at_ n.B exprB with
                | false => simp [yB, Cod.kindRight, e, noneB, yA]
                | true =>
                  simp
                  by_cases zC : n.C = -1
                  · simp [zC]
                    refine loop_up 0 (fun i => ⟨[(1, .t (i64 at_)), (2, .ptr 2 0 0), (5, .ptr 5 0 0), (6, .t (i64 n.Kind)), (11, .t (i64 i))], [(2, .box (c.enc.map .t)), (5, .box (n.enc.map .t))]⟩) (fun _ => True) same ?_ trivial ?_
                    · simp [Nod.enc, Cod.enc, ints, e, cn, cL, cC, cN, cN', cM, cM', zC]
                    · intro i hi _
                      have : i = 0 := by omega
                      subst this
                      simp [Nod.enc, Cod.enc, ints, e, cn, cL, cC, cN, cN', cM, cM', zC]
                      refine loop_up 0 (fun i => ⟨[(1, .t (i64 at_)), (2, .ptr 2 0 0), (5, .ptr 5 0 0), (6, .t (i64 n.Kind)), (13, .t (i64 i))], [(2, .box (c.enc.map .t)), (5, .box (n.enc.map .t))]⟩) (fun _ => True) same ?_ trivial ?_
                      · simp [Nod.enc, Cod.enc, ints, e, cn, cL, cC, cN, cN', cM, cM', zC]
                      · intro i hi _
                        have : i = 0 := by omega
                        subst this
                        simp [Nod.enc, Cod.enc, ints, e, cn, cL, cC, cN, cN', cM, cM', zC]
                        simp [Cod.kindRight, e, noneB, yA, yB, zC]
                  · simp [zC, Cod.kindRight, e, noneB, yA, yB]
            · have cM' : ¬ n.N ≤ 9 := by omega
              have cM2 : 9 < n.N := by omega
              simp [e, cn, cL, cC, cN, cN', cM2, cM', Nod.plain, Nod.named, empty_iff, e]
          · have cN' : ¬ 1 ≤ n.N := by omega
            have cN2 : n.N < 1 := by omega
            simp [e, cn, cL, cC, cN2, cN', Nod.plain, Nod.named, empty_iff, e]
        · have cC' := List.length_pos_iff.2 cC
          simp [e, cn, cL, cC, cC', Nod.plain, Nod.named, empty_iff, e]
      · have cL' := List.length_pos_iff.2 cL
        simp [e, cn, cL, cL', Nod.plain, Nod.named, empty_iff, e]
    · simp [e, cn, Nod.plain, Nod.named, empty_iff, e]
  · by_cases cN : n.N = 0
    · by_cases cC : n.Cases = []
      · have hplain : n.plain = true := by simp [Nod.plain, Nod.named, empty_iff, e, e, cN, cC]
        rw [hplain, Bool.true_and]
        simp [e, cN, cC]
        by_cases zA : n.A = -1
        · simp [zA]
          by_cases zB : n.B = -1
          · simp [zB]
            by_cases zC : n.C = -1
            · simp [zC]
              refine loop_up n.L.length (fun i => ⟨[(1, .t (i64 at_)), (2, .ptr 2 0 0), (5, .ptr 5 0 0), (6, .t (i64 n.Kind)), (11, .t (i64 i))], [(2, .box (c.enc.map .t)), (5, .box (n.enc.map .t))]⟩) (fun i => ∀ x ∈ n.L.take i, c.child at_ x exprB = true) same ?_ (by simp) ?_
              · simp [Nod.enc, Cod.enc, ints, e, cN, cC, zA, zB, zC]
              · intro i hi hR
                by_cases hl : i < n.L.length
                · simp [hl, Nod.enc, Cod.enc, ints, e, cN, cC, zA, zB, zC]
                  refine callD_intro (ts := [.agg c.enc, i64 at_, i64 n.L[i], i64 1, .bool true]) (by simp [Cod.enc]) _ (rchild_pure c at_ n.L[i] 1 true (by omega) ok.l) (.inl (by rfl)) ?_
                  rw [childR_must c hpl n.L[i] 1, isB1]
                  cases yL : c.child at_ n.L[i] exprB with
                  | true =>
                    simp
                    rw [wr_id (by omega) (by omega)]
                    refine up_next same hl ?_ ?_
                    · intro x hx
                      rw [take_snoc _ _ hl] at hx
                      rcases List.mem_append.1 hx with hx | hx
                      · exact hR x hx
                      · rw [List.mem_singleton.1 hx]; exact yL
                    · simp [Nod.enc, Cod.enc, ints, e, cN, cC, zA, zB, zC]
                  | false =>
                    have : c.all at_ n.L exprB = false := by
                      unfold Cod.all
                      rw [Bool.not_eq_false', List.any_eq_true]
                      exact ⟨_, List.getElem_mem hl, by simp [yL]⟩
                    simp [this, Cod.kindRight, e, noneB, zA, zB, zC]
                · have hin : i = n.L.length := by omega
                  subst hin
                  have hall : c.all at_ n.L exprB = true := by
                    unfold Cod.all
                    rw [Bool.not_eq_true', List.any_eq_false]
                    intro x hx
                    simp [hR x (by rw [List.take_length]; exact hx)]
                  simp [Nod.enc, Cod.enc, ints, e, cN, cC, zA, zB, zC]
                  refine loop_up 0 (fun i => ⟨[(1, .t (i64 at_)), (2, .ptr 2 0 0), (5, .ptr 5 0 0), (6, .t (i64 n.Kind)), (13, .t (i64 i))], [(2, .box (c.enc.map .t)), (5, .box (n.enc.map .t))]⟩) (fun _ => True) same ?_ trivial ?_
                  · simp [Nod.enc, Cod.enc, ints, e, cN, cC, zA, zB, zC]
                  · intro i hi _
                    have : i = 0 := by omega
                    subst this
                    simp [Nod.enc, Cod.enc, ints, e, cN, cC, zA, zB, zC]
                    simp [Cod.kindRight, e, noneB, zA, zB, zC, hall]
            · simp [zC, Cod.kindRight, e, noneB, zA, zB]
          · simp [zB, Cod.kindRight, e, noneB, zA]
        · simp [zA, Cod.kindRight, e, noneB]
      · have cC' := List.length_pos_iff.2 cC
        simp [e, cN, cC, cC', Nod.plain, Nod.named, empty_iff, e]
    · simp [e, cN, Nod.plain, Nod.named, empty_iff, e]
  · by_cases cN : n.N = 0
    · by_cases cL : n.L = []
      · by_cases cC : n.Cases = []
        · have hplain : n.plain = true := by simp [Nod.plain, Nod.named, empty_iff, e, e, cN, cL, cC]
          rw [hplain, Bool.true_and]
          simp [e, cN, cL, cC]
          refine call_t (ts := [.agg c.enc, i64 at_, i64 n.A, i64 1, .bool true]) _ (rchild_pure c at_ n.A 1 true (by omega) ok.l) (by simp) ?_
          rw [childR_must c hpl n.A 1, isB1]
          cases yA : c.child at_ n.A exprB with
          | false => simp [yA, Cod.kindRight, e, noneB]
          | true =>
            simp
            by_cases zB : n.B = -1
            · simp [zB]
              by_cases zC : n.C = -1
              · simp [zC]
                refine loop_up 0 (fun i => ⟨[(1, .t (i64 at_)), (2, .ptr 2 0 0), (5, .ptr 5 0 0), (6, .t (i64 n.Kind)), (11, .t (i64 i))], [(2, .box (c.enc.map .t)), (5, .box (n.enc.map .t))]⟩) (fun _ => True) same ?_ trivial ?_
                · simp [Nod.enc, Cod.enc, ints, e, cN, cL, cC, zB, zC]
                · intro i hi _
                  have : i = 0 := by omega
                  subst this
                  simp [Nod.enc, Cod.enc, ints, e, cN, cL, cC, zB, zC]
                  refine loop_up 0 (fun i => ⟨[(1, .t (i64 at_)), (2, .ptr 2 0 0), (5, .ptr 5 0 0), (6, .t (i64 n.Kind)), (13, .t (i64 i))], [(2, .box (c.enc.map .t)), (5, .box (n.enc.map .t))]⟩) (fun _ => True) same ?_ trivial ?_
                  · simp [Nod.enc, Cod.enc, ints, e, cN, cL, cC, zB, zC]
                  · intro i hi _
                    have : i = 0 := by omega
                    subst this
                    simp [Nod.enc, Cod.enc, ints, e, cN, cL, cC, zB, zC]
                    simp [Cod.kindRight, e, noneB, yA, zB, zC]
              · simp [zC, Cod.kindRight, e, noneB, yA, zB]
            · simp [zB, Cod.kindRight, e, noneB, yA]
        · have cC' := List.length_pos_iff.2 cC
          simp [e, cN, cL, cC, cC', Nod.plain, Nod.named, empty_iff, e]
      · have cL' := List.length_pos_iff.2 cL
        simp [e, cN, cL, cL', Nod.plain, Nod.named, empty_iff, e]
    · simp [e, cN, Nod.plain, Nod.named, empty_iff, e]
  · by_cases cN : n.N = 0
    · by_cases cL : n.L = []
      · by_cases cC : n.Cases = []
        · have hplain : n.plain = true := by simp [Nod.plain, Nod.named, empty_iff, e, e, cN, cL, cC]
          rw [hplain, Bool.true_and]
          simp [e, cN, cL, cC]
          by_cases zA : n.A = -1
          · simp [zA]
            by_cases zB : n.B = -1
            · simp [zB]
              by_cases zC : n.C = -1
              · simp [zC]
                refine loop_up 0 (fun i => ⟨[(1, .t (i64 at_)), (2, .ptr 2 0 0), (5, .ptr 5 0 0), (6, .t (i64 n.Kind)), (11, .t (i64 i))], [(2, .box (c.enc.map .t)), (5, .box (n.enc.map .t))]⟩) (fun _ => True) same ?_ trivial ?_
                · simp [Nod.enc, Cod.enc, ints, e, cN, cL, cC, zA, zB, zC]
                · intro i hi _
                  have : i = 0 := by omega
                  subst this
                  simp [Nod.enc, Cod.enc, ints, e, cN, cL, cC, zA, zB, zC]
                  refine loop_up 0 (fun i => ⟨[(1, .t (i64 at_)), (2, .ptr 2 0 0), (5, .ptr 5 0 0), (6, .t (i64 n.Kind)), (13, .t (i64 i))], [(2, .box (c.enc.map .t)), (5, .box (n.enc.map .t))]⟩) (fun _ => True) same ?_ trivial ?_
                  · simp [Nod.enc, Cod.enc, ints, e, cN, cL, cC, zA, zB, zC]
                  · intro i hi _
                    have : i = 0 := by omega
                    subst this
                    simp [Nod.enc, Cod.enc, ints, e, cN, cL, cC, zA, zB, zC]
                    simp [Cod.kindRight, e, noneB, zA, zB, zC]
              · simp [zC, Cod.kindRight, e, noneB, zA, zB]
            · simp [zB, Cod.kindRight, e, noneB, zA]
          · simp [zA, Cod.kindRight, e, noneB]
        · have cC' := List.length_pos_iff.2 cC
          simp [e, cN, cL, cC, cC', Nod.plain, Nod.named, empty_iff, e]
      · have cL' := List.length_pos_iff.2 cL
        simp [e, cN, cL, cL', Nod.plain, Nod.named, empty_iff, e]
    · simp [e, cN, Nod.plain, Nod.named, empty_iff, e]
  · by_cases cn : n.Name = ByteArray.empty
    · by_cases cN : n.N = 0
      · by_cases cC : n.Cases = []
        · have hplain : n.plain = true := by simp [Nod.plain, Nod.named, empty_iff, e, e, cn, cN, cC]
          rw [hplain, Bool.true_and]
          simp [e, cn, cN, cC]
          by_cases zA : n.A = -1
          · simp [zA]
            by_cases zB : n.B = -1
            · simp [zB]
              by_cases zC : n.C = -1
              · simp [zC]
                refine loop_up n.L.length (fun i => ⟨[(1, .t (i64 at_)), (2, .ptr 2 0 0), (5, .ptr 5 0 0), (6, .t (i64 n.Kind)), (11, .t (i64 i))], [(2, .box (c.enc.map .t)), (5, .box (n.enc.map .t))]⟩) (fun i => ∀ x ∈ n.L.take i, c.child at_ x stmtB = true) same ?_ (by simp) ?_
                · simp [Nod.enc, Cod.enc, ints, e, cn, cN, cC, zA, zB, zC]
                · intro i hi hR
                  by_cases hl : i < n.L.length
                  · simp [hl, Nod.enc, Cod.enc, ints, e, cn, cN, cC, zA, zB, zC]
                    refine callD_intro (ts := [.agg c.enc, i64 at_, i64 n.L[i], i64 3, .bool true]) (by simp [Cod.enc]) _ (rchild_pure c at_ n.L[i] 3 true (by omega) ok.l) (.inl (by rfl)) ?_
                    rw [childR_must c hpl n.L[i] 3, isB3]
                    cases yL : c.child at_ n.L[i] stmtB with
                    | true =>
                      simp
                      rw [wr_id (by omega) (by omega)]
                      refine up_next same hl ?_ ?_
                      · intro x hx
                        rw [take_snoc _ _ hl] at hx
                        rcases List.mem_append.1 hx with hx | hx
                        · exact hR x hx
                        · rw [List.mem_singleton.1 hx]; exact yL
                      · simp [Nod.enc, Cod.enc, ints, e, cn, cN, cC, zA, zB, zC]
                    | false =>
                      have : c.all at_ n.L stmtB = false := by
                        unfold Cod.all
                        rw [Bool.not_eq_false', List.any_eq_true]
                        exact ⟨_, List.getElem_mem hl, by simp [yL]⟩
                      simp [this, Cod.kindRight, e, noneB, zA, zB, zC]
                  · have hin : i = n.L.length := by omega
                    subst hin
                    have hall : c.all at_ n.L stmtB = true := by
                      unfold Cod.all
                      rw [Bool.not_eq_true', List.any_eq_false]
                      intro x hx
                      simp [hR x (by rw [List.take_length]; exact hx)]
                    simp [Nod.enc, Cod.enc, ints, e, cn, cN, cC, zA, zB, zC]
                    refine loop_up 0 (fun i => ⟨[(1, .t (i64 at_)), (2, .ptr 2 0 0), (5, .ptr 5 0 0), (6, .t (i64 n.Kind)), (13, .t (i64 i))], [(2, .box (c.enc.map .t)), (5, .box (n.enc.map .t))]⟩) (fun _ => True) same ?_ trivial ?_
                    · simp [Nod.enc, Cod.enc, ints, e, cn, cN, cC, zA, zB, zC]
                    · intro i hi _
                      have : i = 0 := by omega
                      subst this
                      simp [Nod.enc, Cod.enc, ints, e, cn, cN, cC, zA, zB, zC]
                      simp [Cod.kindRight, e, noneB, zA, zB, zC, hall]
              · simp [zC, Cod.kindRight, e, noneB, zA, zB]
            · simp [zB, Cod.kindRight, e, noneB, zA]
          · simp [zA, Cod.kindRight, e, noneB]
        · have cC' := List.length_pos_iff.2 cC
          simp [e, cn, cN, cC, cC', Nod.plain, Nod.named, empty_iff, e]
      · simp [e, cn, cN, Nod.plain, Nod.named, empty_iff, e]
    · simp [e, cn, Nod.plain, Nod.named, empty_iff, e]
  · by_cases cN : n.N = 0
    · by_cases cL : n.L = []
      · by_cases cC : n.Cases = []
        · have hplain : n.plain = true := by simp [Nod.plain, Nod.named, empty_iff, e, e, cN, cL, cC]
          rw [hplain, Bool.true_and]
          simp [e, cN, cL, cC]
          refine call_t (ts := [.agg c.enc, i64 at_, i64 n.A, i64 1, .bool true]) _ (rchild_pure c at_ n.A 1 true (by omega) ok.l) (by simp) ?_
          rw [childR_must c hpl n.A 1, isB1]
          cases yA : c.child at_ n.A exprB with
          | false => simp [yA, Cod.kindRight, e, noneB]
          | true =>
            simp
            by_cases zB : n.B = -1
            · simp [zB]
              by_cases zC : n.C = -1
              · simp [zC]
                refine loop_up 0 (fun i => ⟨[(1, .t (i64 at_)), (2, .ptr 2 0 0), (5, .ptr 5 0 0), (6, .t (i64 n.Kind)), (11, .t (i64 i))], [(2, .box (c.enc.map .t)), (5, .box (n.enc.map .t))]⟩) (fun _ => True) same ?_ trivial ?_
                · simp [Nod.enc, Cod.enc, ints, e, cN, cL, cC, zB, zC]
                · intro i hi _
                  have : i = 0 := by omega
                  subst this
                  simp [Nod.enc, Cod.enc, ints, e, cN, cL, cC, zB, zC]
                  refine loop_up 0 (fun i => ⟨[(1, .t (i64 at_)), (2, .ptr 2 0 0), (5, .ptr 5 0 0), (6, .t (i64 n.Kind)), (13, .t (i64 i))], [(2, .box (c.enc.map .t)), (5, .box (n.enc.map .t))]⟩) (fun _ => True) same ?_ trivial ?_
                  · simp [Nod.enc, Cod.enc, ints, e, cN, cL, cC, zB, zC]
                  · intro i hi _
                    have : i = 0 := by omega
                    subst this
                    simp [Nod.enc, Cod.enc, ints, e, cN, cL, cC, zB, zC]
                    simp [Cod.kindRight, e, noneB, yA, zB, zC]
              · simp [zC, Cod.kindRight, e, noneB, yA, zB]
            · simp [zB, Cod.kindRight, e, noneB, yA]
        · have cC' := List.length_pos_iff.2 cC
          simp [e, cN, cL, cC, cC', Nod.plain, Nod.named, empty_iff, e]
      · have cL' := List.length_pos_iff.2 cL
        simp [e, cN, cL, cL', Nod.plain, Nod.named, empty_iff, e]
    · simp [e, cN, Nod.plain, Nod.named, empty_iff, e]
  · by_cases cn : n.Name = ByteArray.empty
    · by_cases cN : n.N = 0
      · by_cases cL : n.L = []
        · by_cases cC : n.Cases = []
          · have hplain : n.plain = true := by simp [Nod.plain, Nod.named, empty_iff, e, e, cn, cN, cL, cC]
            rw [hplain, Bool.true_and]
            simp [e, cn, cN, cL, cC]
            refine call_t (ts := [.agg c.enc, i64 at_, i64 n.A, i64 5, .bool true]) _ (rchild_pure c at_ n.A 5 true (by omega) ok.l) (by simp) ?_
            rw [childR_must c hpl n.A 5, isB5]
            cases yA : c.child at_ n.A placeB with
            | false => simp [yA, Cod.kindRight, e, noneB]
            | true =>
              simp
              refine call_t (ts := [.agg c.enc, i64 at_, i64 n.B, i64 1, .bool true]) _ (rchild_pure c at_ n.B 1 true (by omega) ok.l) (by simp) ?_
              rw [childR_must c hpl n.B 1, isB1]
              cases yB : c.child at_ n.B exprB with
              | false => simp [yB, Cod.kindRight, e, noneB, yA]
              | true =>
                simp
                by_cases zC : n.C = -1
                · simp [zC]
                  refine loop_up 0 (fun i => ⟨[(1, .t (i64 at_)), (2, .ptr 2 0 0), (5, .ptr 5 0 0), (6, .t (i64 n.Kind)), (11, .t (i64 i))], [(2, .box (c.enc.map .t)), (5, .box (n.enc.map .t))]⟩) (fun _ => True) same ?_ trivial ?_
                  · simp [Nod.enc, Cod.enc, ints, e, cn, cN, cL, cC, zC]
                  · intro i hi _
                    have : i = 0 := by omega
                    subst this
                    simp [Nod.enc, Cod.enc, ints, e, cn, cN, cL, cC, zC]
                    refine loop_up 0 (fun i => ⟨[(1, .t (i64 at_)), (2, .ptr 2 0 0), (5, .ptr 5 0 0), (6, .t (i64 n.Kind)), (13, .t (i64 i))], [(2, .box (c.enc.map .t)), (5, .box (n.enc.map .t))]⟩) (fun _ => True) same ?_ trivial ?_
                    · simp [Nod.enc, Cod.enc, ints, e, cn, cN, cL, cC, zC]
                    · intro i hi _
                      have : i = 0 := by omega
                      subst this
                      simp [Nod.enc, Cod.enc, ints, e, cn, cN, cL, cC, zC]
                      simp [Cod.kindRight, e, noneB, yA, yB, zC]
                · simp [zC, Cod.kindRight, e, noneB, yA, yB]
          · have cC' := List.length_pos_iff.2 cC
            simp [e, cn, cN, cL, cC, cC', Nod.plain, Nod.named, empty_iff, e]
        · have cL' := List.length_pos_iff.2 cL
          simp [e, cn, cN, cL, cL', Nod.plain, Nod.named, empty_iff, e]
      · simp [e, cn, cN, Nod.plain, Nod.named, empty_iff, e]
    · simp [e, cn, Nod.plain, Nod.named, empty_iff, e]
  · by_cases cn : n.Name = ByteArray.empty
    · by_cases cN : n.N = 0
      · by_cases cL : n.L = []
        · by_cases cC : n.Cases = []
          · have hplain : n.plain = true := by simp [Nod.plain, Nod.named, empty_iff, e, e, cn, cN, cL, cC]
            rw [hplain, Bool.true_and]
            simp [e, cn, cN, cL, cC]
            refine call_t (ts := [.agg c.enc, i64 at_, i64 n.A, i64 1, .bool true]) _ (rchild_pure c at_ n.A 1 true (by omega) ok.l) (by simp) ?_
            rw [childR_must c hpl n.A 1, isB1]
            cases yA : c.child at_ n.A exprB with
            | false => simp [yA, Cod.kindRight, e, noneB]
            | true =>
              simp
              refine call_t (ts := [.agg c.enc, i64 at_, i64 n.B, i64 2, .bool true]) _ (rchild_pure c at_ n.B 2 true (by omega) ok.l) (by simp) ?_
              rw [childR_must c hpl n.B 2, isB2]
              cases yB : c.child at_ n.B blockB with
              | false => simp [yB, Cod.kindRight, e, noneB, yA]
              | true =>
                simp
                refine call_t (ts := [.agg c.enc, i64 at_, i64 n.C, i64 4, .bool false]) _ (rchild_pure c at_ n.C 4 false (by omega) ok.l) (by simp) ?_
                rw [childR_some c at_ n.C 4, isB4]
                cases yC : c.some at_ n.C otherB with
                | false => simp [yC, Cod.kindRight, e, noneB, yA, yB]
                | true =>
                  simp
                  refine loop_up 0 (fun i => ⟨[(1, .t (i64 at_)), (2, .ptr 2 0 0), (5, .ptr 5 0 0), (6, .t (i64 n.Kind)), (11, .t (i64 i))], [(2, .box (c.enc.map .t)), (5, .box (n.enc.map .t))]⟩) (fun _ => True) same ?_ trivial ?_
                  · simp [Nod.enc, Cod.enc, ints, e, cn, cN, cL, cC]
                  · intro i hi _
                    have : i = 0 := by omega
                    subst this
                    simp [Nod.enc, Cod.enc, ints, e, cn, cN, cL, cC]
                    refine loop_up 0 (fun i => ⟨[(1, .t (i64 at_)), (2, .ptr 2 0 0), (5, .ptr 5 0 0), (6, .t (i64 n.Kind)), (13, .t (i64 i))], [(2, .box (c.enc.map .t)), (5, .box (n.enc.map .t))]⟩) (fun _ => True) same ?_ trivial ?_
                    · simp [Nod.enc, Cod.enc, ints, e, cn, cN, cL, cC]
                    · intro i hi _
                      have : i = 0 := by omega
                      subst this
                      simp [Nod.enc, Cod.enc, ints, e, cn, cN, cL, cC]
                      simp [Cod.kindRight, e, noneB, yA, yB, yC]
          · have cC' := List.length_pos_iff.2 cC
            simp [e, cn, cN, cL, cC, cC', Nod.plain, Nod.named, empty_iff, e]
        · have cL' := List.length_pos_iff.2 cL
          simp [e, cn, cN, cL, cL', Nod.plain, Nod.named, empty_iff, e]
      · simp [e, cn, cN, Nod.plain, Nod.named, empty_iff, e]
    · simp [e, cn, Nod.plain, Nod.named, empty_iff, e]
  · by_cases cn : n.Name = ByteArray.empty
    · by_cases cN : n.N = 0
      · by_cases cL : n.L = []
        · by_cases cC : n.Cases = []
          · have hplain : n.plain = true := by simp [Nod.plain, Nod.named, empty_iff, e, e, cn, cN, cL, cC]
            rw [hplain, Bool.true_and]
            simp [e, cn, cN, cL, cC]
            refine call_t (ts := [.agg c.enc, i64 at_, i64 n.A, i64 1, .bool true]) _ (rchild_pure c at_ n.A 1 true (by omega) ok.l) (by simp) ?_
            rw [childR_must c hpl n.A 1, isB1]
            cases yA : c.child at_ n.A exprB with
            | false => simp [yA, Cod.kindRight, e, noneB]
            | true =>
              simp
              refine call_t (ts := [.agg c.enc, i64 at_, i64 n.B, i64 2, .bool true]) _ (rchild_pure c at_ n.B 2 true (by omega) ok.l) (by simp) ?_
              rw [childR_must c hpl n.B 2, isB2]
              cases yB : c.child at_ n.B blockB with
              | false => simp [yB, Cod.kindRight, e, noneB, yA]
              | true =>
                simp
                by_cases zC : n.C = -1
                · simp [zC]
                  refine loop_up 0 (fun i => ⟨[(1, .t (i64 at_)), (2, .ptr 2 0 0), (5, .ptr 5 0 0), (6, .t (i64 n.Kind)), (11, .t (i64 i))], [(2, .box (c.enc.map .t)), (5, .box (n.enc.map .t))]⟩) (fun _ => True) same ?_ trivial ?_
                  · simp [Nod.enc, Cod.enc, ints, e, cn, cN, cL, cC, zC]
                  · intro i hi _
                    have : i = 0 := by omega
                    subst this
                    simp [Nod.enc, Cod.enc, ints, e, cn, cN, cL, cC, zC]
                    refine loop_up 0 (fun i => ⟨[(1, .t (i64 at_)), (2, .ptr 2 0 0), (5, .ptr 5 0 0), (6, .t (i64 n.Kind)), (13, .t (i64 i))], [(2, .box (c.enc.map .t)), (5, .box (n.enc.map .t))]⟩) (fun _ => True) same ?_ trivial ?_
                    · simp [Nod.enc, Cod.enc, ints, e, cn, cN, cL, cC, zC]
                    · intro i hi _
                      have : i = 0 := by omega
                      subst this
                      simp [Nod.enc, Cod.enc, ints, e, cn, cN, cL, cC, zC]
                      simp [Cod.kindRight, e, noneB, yA, yB, zC]
                · simp [zC, Cod.kindRight, e, noneB, yA, yB]
          · have cC' := List.length_pos_iff.2 cC
            simp [e, cn, cN, cL, cC, cC', Nod.plain, Nod.named, empty_iff, e]
        · have cL' := List.length_pos_iff.2 cL
          simp [e, cn, cN, cL, cL', Nod.plain, Nod.named, empty_iff, e]
      · simp [e, cn, cN, Nod.plain, Nod.named, empty_iff, e]
    · simp [e, cn, Nod.plain, Nod.named, empty_iff, e]
  · by_cases cn : n.Name = ByteArray.empty
    · by_cases cN : n.N = 0
      · by_cases cL : n.L = []
        · have hplain : n.plain = true := by simp [Nod.plain, Nod.named, empty_iff, e, e, cn, cN, cL]
          rw [hplain, Bool.true_and]
          simp [e, cn, cN, cL]
          refine call_t (ts := [.agg c.enc, i64 at_, i64 n.A, i64 1, .bool true]) _ (rchild_pure c at_ n.A 1 true (by omega) ok.l) (by simp) ?_
          rw [childR_must c hpl n.A 1, isB1]
          cases yA : c.child at_ n.A exprB with
          | false => simp [yA, Cod.kindRight, e, noneB]
          | true =>
            simp
            refine call_t (ts := [.agg c.enc, i64 at_, i64 n.B, i64 2, .bool false]) _ (rchild_pure c at_ n.B 2 false (by omega) ok.l) (by simp) ?_
            rw [childR_some c at_ n.B 2, isB2]
            cases yB : c.some at_ n.B blockB with
            | false => simp [yB, Cod.kindRight, e, noneB, yA]
            | true =>
              simp
              by_cases zC : n.C = -1
              · simp [zC]
                refine loop_up 0 (fun i => ⟨[(1, .t (i64 at_)), (2, .ptr 2 0 0), (5, .ptr 5 0 0), (6, .t (i64 n.Kind)), (11, .t (i64 i))], [(2, .box (c.enc.map .t)), (5, .box (n.enc.map .t))]⟩) (fun _ => True) same ?_ trivial ?_
                · simp [Nod.enc, Cod.enc, ints, e, cn, cN, cL, zC]
                · intro i hi _
                  have : i = 0 := by omega
                  subst this
                  simp [Nod.enc, Cod.enc, ints, e, cn, cN, cL, zC]
                  refine loop_up n.Cases.length (fun i => ⟨[(1, .t (i64 at_)), (2, .ptr 2 0 0), (5, .ptr 5 0 0), (6, .t (i64 n.Kind)), (13, .t (i64 i))], [(2, .box (c.enc.map .t)), (5, .box (n.enc.map .t))]⟩) (fun i => ∀ x ∈ n.Cases.take i, c.caseBad at_ x = false) same ?_ (by simp) ?_
                  · simp [Nod.enc, Cod.enc, ints, e, cn, cN, cL, zC]
                  · intro i hi hR
                    by_cases hl : i < n.Cases.length
                    · have hx3 := o3 _ (List.getElem_mem hl)
                      have bad : c.caseBad at_ n.Cases[i] = true → n.Cases.any (c.caseBad at_) = true := fun q => List.any_eq_true.2 ⟨_, List.getElem_mem hl, q⟩
                      by_cases l0 : n.Cases[i].L = []
                      · simp [hl, l0, Cas.enc, Nod.enc, Cod.enc, ints, e, cn, cN, cL, zC, Cod.kindRight, e, noneB, yA, yB, zC, bad (by simp [Cod.caseBad, l0])]
                      · simp [hl, l0, Cas.enc, Nod.enc, Cod.enc, ints, e, cn, cN, cL, zC]
                        refine callD_intro (ts := [.agg c.enc, i64 at_, i64 n.Cases[i].Body, i64 2, .bool true]) (by simp [Cod.enc]) _ (rchild_pure c at_ n.Cases[i].Body 2 true (by omega) ok.l) (.inl (by rfl)) ?_
                        rw [childR_must c hpl n.Cases[i].Body 2, isB2]
                        cases yB2 : c.child at_ n.Cases[i].Body blockB with
                        | false => simp [Cod.kindRight, e, noneB, yA, yB, zC, bad (by have : (fun k : Int => decide (k = 11)) = blockB := rfl; simp [Cod.caseBad, this, yB2])]
                        | true =>
                          simp
                          refine loop_up n.Cases[i].L.length (fun j => ⟨[(1, .t (i64 at_)), (2, .ptr 2 0 0), (5, .ptr 5 0 0), (6, .t (i64 n.Kind)), (13, .t (i64 i)), (14, .t (i64 j))], [(2, .box (c.enc.map .t)), (5, .box (n.enc.map .t))]⟩) (fun j => ∀ x ∈ n.Cases[i].L.take j, numB x = true) same ?_ (by simp) ?_
                          · simp [Nod.enc, Cod.enc, ints, e, cn, cN, cL, zC]
                          · intro j hj hR2
                            by_cases hl2 : j < n.Cases[i].L.length
                            · simp [hl, hl2, Cas.enc, Nod.enc, Cod.enc, ints, e, cn, cN, cL, zC]
                              refine call_t (ts := [i64 n.Cases[i].L[j]]) _ (rnum_pure n.Cases[i].L[j]) (by simp) ?_
                              cases yN : numB n.Cases[i].L[j] with
                              | true =>
                                simp
                                rw [wr_id (by omega) (by omega)]
                                refine up_next same hl2 ?_ ?_
                                · intro x hx
                                  rw [take_snoc _ _ hl2] at hx
                                  rcases List.mem_append.1 hx with hx | hx
                                  · exact hR2 x hx
                                  · rw [List.mem_singleton.1 hx]; exact yN
                                · simp [Nod.enc, Cod.enc, ints, e, cn, cN, cL, zC]
                              | false =>
                                have hb : n.Cases[i].L.any (fun n => !numB n) = true := List.any_eq_true.2 ⟨_, List.getElem_mem hl2, by simp [yN]⟩
                                have hb2 := bad (by simp only [Cod.caseBad, hb, Bool.or_true, Bool.true_or])
                                simp only [Ret_ret, bk_blk_ret, bk_seq_ret, bk_rnd_ret, not_false_eq_true] at *
                                simp [Cod.kindRight, e, noneB, yA, yB, zC, hb2]
                            · have hin2 : j = n.Cases[i].L.length := by omega
                              subst hin2
                              have hgood : c.caseBad at_ n.Cases[i] = false := by
                                have hb : n.Cases[i].L.any (fun n => !numB n) = false := List.any_eq_false.2 fun x hx => by simp [hR2 x (by rw [List.take_length]; exact hx)]
                                have : (fun k : Int => decide (k = 11)) = blockB := rfl
                                simp only [Cod.caseBad, hb, this, yB2]
                                simp [l0]
                              simp [hl, Cas.enc, Nod.enc, Cod.enc, ints, e, cn, cN, cL, zC]
                              rw [wr_id (by omega) (by omega)]
                              refine up_next same hl ?_ ?_
                              · intro x hx
                                rw [take_snoc _ _ hl] at hx
                                rcases List.mem_append.1 hx with hx | hx
                                · exact hR x hx
                                · rw [List.mem_singleton.1 hx]; exact hgood
                              · simp [Nod.enc, Cod.enc, ints, e, cn, cN, cL, zC]
                    · have hin : i = n.Cases.length := by omega
                      subst hin
                      have hgood : n.Cases.any (c.caseBad at_) = false := List.any_eq_false.2 fun x hx => by simp [hR x (by rw [List.take_length]; exact hx)]
                      simp [Nod.enc, Cod.enc, ints, e, cn, cN, cL, zC]
                      simp [Cod.kindRight, e, noneB, yA, yB, zC, hgood]
              · simp [zC, Cod.kindRight, e, noneB, yA, yB]
        · have cL' := List.length_pos_iff.2 cL
          simp [e, cn, cN, cL, cL', Nod.plain, Nod.named, empty_iff, e]
      · simp [e, cn, cN, Nod.plain, Nod.named, empty_iff, e]
    · simp [e, cn, Nod.plain, Nod.named, empty_iff, e]
  · by_cases cn : n.Name = ByteArray.empty
    · by_cases cN : n.N = 0
      · by_cases cL : n.L = []
        · by_cases cC : n.Cases = []
          · have hplain : n.plain = true := by simp [Nod.plain, Nod.named, empty_iff, e, e, cn, cN, cL, cC]
            rw [hplain, Bool.true_and]
            simp [e, cn, cN, cL, cC]
            refine call_t (ts := [.agg c.enc, i64 at_, i64 n.A, i64 1, .bool false]) _ (rchild_pure c at_ n.A 1 false (by omega) ok.l) (by simp) ?_
            rw [childR_some c at_ n.A 1, isB1]
            cases yA : c.some at_ n.A exprB with
            | false => simp [yA, Cod.kindRight, e, noneB]
            | true =>
              simp
              by_cases zB : n.B = -1
              · simp [zB]
                by_cases zC : n.C = -1
                · simp [zC]
                  refine loop_up 0 (fun i => ⟨[(1, .t (i64 at_)), (2, .ptr 2 0 0), (5, .ptr 5 0 0), (6, .t (i64 n.Kind)), (11, .t (i64 i))], [(2, .box (c.enc.map .t)), (5, .box (n.enc.map .t))]⟩) (fun _ => True) same ?_ trivial ?_
                  · simp [Nod.enc, Cod.enc, ints, e, cn, cN, cL, cC, zB, zC]
                  · intro i hi _
                    have : i = 0 := by omega
                    subst this
                    simp [Nod.enc, Cod.enc, ints, e, cn, cN, cL, cC, zB, zC]
                    refine loop_up 0 (fun i => ⟨[(1, .t (i64 at_)), (2, .ptr 2 0 0), (5, .ptr 5 0 0), (6, .t (i64 n.Kind)), (13, .t (i64 i))], [(2, .box (c.enc.map .t)), (5, .box (n.enc.map .t))]⟩) (fun _ => True) same ?_ trivial ?_
                    · simp [Nod.enc, Cod.enc, ints, e, cn, cN, cL, cC, zB, zC]
                    · intro i hi _
                      have : i = 0 := by omega
                      subst this
                      simp [Nod.enc, Cod.enc, ints, e, cn, cN, cL, cC, zB, zC]
                      simp [Cod.kindRight, e, noneB, yA, zB, zC]
                · simp [zC, Cod.kindRight, e, noneB, yA, zB]
              · simp [zB, Cod.kindRight, e, noneB, yA]
          · have cC' := List.length_pos_iff.2 cC
            simp [e, cn, cN, cL, cC, cC', Nod.plain, Nod.named, empty_iff, e]
        · have cL' := List.length_pos_iff.2 cL
          simp [e, cn, cN, cL, cL', Nod.plain, Nod.named, empty_iff, e]
      · simp [e, cn, cN, Nod.plain, Nod.named, empty_iff, e]
    · simp [e, cn, Nod.plain, Nod.named, empty_iff, e]
  · by_cases cn : n.Name = ByteArray.empty
    · by_cases cN : n.N = 0
      · by_cases cL : n.L = []
        · by_cases cC : n.Cases = []
          · have hplain : n.plain = true := by simp [Nod.plain, Nod.named, empty_iff, e, e, cn, cN, cL, cC]
            rw [hplain, Bool.true_and]
            simp [e, cn, cN, cL, cC]
            refine call_t (ts := [.agg c.enc, i64 at_, i64 n.A, i64 6, .bool true]) _ (rchild_pure c at_ n.A 6 true (by omega) ok.l) (by simp) ?_
            rw [childR_must c hpl n.A 6, isB6]
            cases yA : c.child at_ n.A callB with
            | false => simp [yA, Cod.kindRight, e, noneB]
            | true =>
              simp
              by_cases zB : n.B = -1
              · simp [zB]
                by_cases zC : n.C = -1
                · simp [zC]
                  refine loop_up 0 (fun i => ⟨[(1, .t (i64 at_)), (2, .ptr 2 0 0), (5, .ptr 5 0 0), (6, .t (i64 n.Kind)), (11, .t (i64 i))], [(2, .box (c.enc.map .t)), (5, .box (n.enc.map .t))]⟩) (fun _ => True) same ?_ trivial ?_
                  · simp [Nod.enc, Cod.enc, ints, e, cn, cN, cL, cC, zB, zC]
                  · intro i hi _
                    have : i = 0 := by omega
                    subst this
                    simp [Nod.enc, Cod.enc, ints, e, cn, cN, cL, cC, zB, zC]
                    refine loop_up 0 (fun i => ⟨[(1, .t (i64 at_)), (2, .ptr 2 0 0), (5, .ptr 5 0 0), (6, .t (i64 n.Kind)), (13, .t (i64 i))], [(2, .box (c.enc.map .t)), (5, .box (n.enc.map .t))]⟩) (fun _ => True) same ?_ trivial ?_
                    · simp [Nod.enc, Cod.enc, ints, e, cn, cN, cL, cC, zB, zC]
                    · intro i hi _
                      have : i = 0 := by omega
                      subst this
                      simp [Nod.enc, Cod.enc, ints, e, cn, cN, cL, cC, zB, zC]
                      simp [Cod.kindRight, e, noneB, yA, zB, zC]
                · simp [zC, Cod.kindRight, e, noneB, yA, zB]
              · simp [zB, Cod.kindRight, e, noneB, yA]
          · have cC' := List.length_pos_iff.2 cC
            simp [e, cn, cN, cL, cC, cC', Nod.plain, Nod.named, empty_iff, e]
        · have cL' := List.length_pos_iff.2 cL
          simp [e, cn, cN, cL, cL', Nod.plain, Nod.named, empty_iff, e]
      · simp [e, cn, cN, Nod.plain, Nod.named, empty_iff, e]
    · simp [e, cn, Nod.plain, Nod.named, empty_iff, e]

end Go.Eng
