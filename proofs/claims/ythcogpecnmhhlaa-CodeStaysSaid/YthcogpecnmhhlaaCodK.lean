/- What the program's functions 46 compute (numbers of this seat): contracts, walked by the engine. -/
import Derived.Test.YthcogpecnmhhlaaEngU
import Derived.Test.YthcogpecnmhhlaaCodJ
import Derived.Test.YthcogpecnmhhlaaProg
namespace Go.Eng
open Go Go.Proofs
set_option maxRecDepth 100000
set_option linter.all false
def c46 : Cd := (.seq (.reg [o1 2 (.box true 4 (.t 0)), o1 4 (.mv (.c (.bool false)))] false) (.seq (.reg [o1 7 (.fa 0 (.t 2)), o1 8 (.fa 3 (.t 7)), o1 9 (.ld false 1 (.t 8)), o1 10 (.mv (.t 1)), o1 11 (.ia 8 (.t 9) (.t 10)), o1 12 (.ld true 8 (.t 11)), o1 5 (.new [.int .i64 0, .int .i64 0, .str ByteArray.empty, .int .i64 0, .int .i64 0, .int .i64 0, .nils, .nils]), o0 (.st 8 (.t 5) (.t 12))] false) (.seq (.seq (.reg [o1 13 (.ld true 8 (.t 5)), o1 14 (.call 74 [(.t 13)]), o1 15 (.not (.t 14))] false) (.cond (.t 15) (.seq (.reg [o1 4 (.mv (.c (.bool false)))] false) .ret) .skip)) (.seq (.reg [o1 6 (.mv (.c (.fn 75 [])))] false) (.seq (.seq (.reg [o1 16 (.fa 0 (.t 5)), o1 17 (.ld false 1 (.t 16))] false) (.blk 0 (.seq (.seq (.reg [o1 19 (.bin .eql (.t 17) (cI 1)), o1 18 (.mv (.t 19))] false) (.cond (.t 18) .skip (.seq (.reg [o1 20 (.bin .eql (.t 17) (cI 2)), o1 18 (.mv (.t 20))] false) (.cond (.t 18) .skip (.seq (.reg [o1 21 (.bin .eql (.t 17) (cI 3)), o1 18 (.mv (.t 21))] false) (.cond (.t 18) .skip (.seq (.reg [o1 22 (.bin .eql (.t 17) (cI 4)), o1 18 (.mv (.t 22))] false) (.cond (.t 18) .skip (.reg [o1 23 (.bin .eql (.t 17) (cI 10)), o1 18 (.mv (.t 23))] false))))))))) (.cond (.t 18) (.seq (.reg [o1 24 (.mv (.t 6)), o1 25 (.fa 3 (.t 5)), o1 26 (.ld false 1 (.t 25)), o1 27 (.fa 4 (.t 5)), o1 28 (.ld false 1 (.t 27)), o1 29 (.fa 5 (.t 5)), o1 30 (.ld false 1 (.t 29)), o1 31 (.bs 3 1 3 [(.t 26), (.t 28), (.t 30)]), o1 32 (.callv (.t 24) [(.t 31)]), o1 4 (.mv (.t 32))] false) .ret) (.seq (.seq (.reg [o1 34 (.bin .eql (.t 17) (cI 5)), o1 33 (.mv (.t 34))] false) (.cond (.t 33) .skip (.seq (.reg [o1 35 (.bin .eql (.t 17) (cI 6)), o1 33 (.mv (.t 35))] false) (.cond (.t 33) .skip (.seq (.reg [o1 36 (.bin .eql (.t 17) (cI 9)), o1 33 (.mv (.t 36))] false) (.cond (.t 33) .skip (.reg [o1 37 (.bin .eql (.t 17) (cI 12)), o1 33 (.mv (.t 37))] false))))))) (.cond (.t 33) (.seq (.reg [o1 38 (.ld true 4 (.t 2)), o1 39 (.mv (.t 1)), o1 40 (.fa 3 (.t 5)), o1 41 (.ld false 1 (.t 40)), o1 42 (.call 48 [(.t 38), (.t 39), (.t 41), (.c (.fn 77 []))]), o1 43 (.mv (.t 42)), og 44 43 true (.mv (.t 6)), og 45 43 true (.fa 4 (.t 5)), og 46 43 true (.ld false 1 (.t 45)), og 47 43 true (.fa 5 (.t 5)), og 48 43 true (.ld false 1 (.t 47)), og 49 43 true (.bs 3 1 2 [(.t 46), (.t 48)]), og 50 43 true (.callv (.t 44) [(.t 49)]), o1 51 (.pick (.t 43) (.t 50) (.c (.bool false))), o1 4 (.mv (.t 51))] false) .ret) (.seq (.reg [o1 53 (.bin .eql (.t 17) (cI 7)), o1 52 (.mv (.t 53))] false) (.cond (.t 52) (.seq (.reg [o1 54 (.ld true 4 (.t 2)), o1 55 (.mv (.t 1)), o1 56 (.fa 3 (.t 5)), o1 57 (.ld false 1 (.t 56)), o1 58 (.call 48 [(.t 54), (.t 55), (.t 57), (.c (.fn 77 []))]), o1 59 (.mv (.t 58)), og 60 59 true (.ld true 4 (.t 2)), og 61 59 true (.mv (.t 1)), og 62 59 true (.fa 4 (.t 5)), og 63 59 true (.ld false 1 (.t 62)), og 64 59 true (.call 48 [(.t 60), (.t 61), (.t 63), (.c (.fn 77 []))]), o1 65 (.pick (.t 59) (.t 64) (.c (.bool false))), o1 66 (.mv (.t 65)), og 67 66 true (.mv (.t 6)), og 68 66 true (.fa 5 (.t 5)), og 69 66 true (.ld false 1 (.t 68)), og 70 66 true (.bs 3 1 1 [(.t 69)]), og 71 66 true (.callv (.t 67) [(.t 70)]), o1 72 (.pick (.t 66) (.t 71) (.c (.bool false))), o1 4 (.mv (.t 72))] false) .ret) (.seq (.reg [o1 74 (.bin .eql (.t 17) (cI 8)), o1 73 (.mv (.t 74))] false) (.cond (.t 73) (.seq (.reg [o1 75 (.mv (.t 6)), o1 76 (.fa 3 (.t 5)), o1 77 (.ld false 1 (.t 76)), o1 78 (.fa 4 (.t 5)), o1 79 (.ld false 1 (.t 78)), o1 80 (.fa 5 (.t 5)), o1 81 (.ld false 1 (.t 80)), o1 82 (.bs 3 1 3 [(.t 77), (.t 79), (.t 81)]), o1 83 (.callv (.t 75) [(.t 82)]), o1 84 (.mv (.t 83)), og 85 84 true (.ld true 4 (.t 2)), og 86 84 true (.mv (.t 1)), og 87 84 true (.fa 6 (.t 5)), og 88 84 true (.ld false 1 (.t 87)), og 89 84 true (.call 78 [(.t 85), (.t 86), (.t 88), (.c (.fn 77 []))]), o1 90 (.pick (.t 84) (.t 89) (.c (.bool false))), o1 4 (.mv (.t 90))] false) .ret) (.seq (.reg [o1 92 (.bin .eql (.t 17) (cI 11)), o1 91 (.mv (.t 92))] false) (.cond (.t 91) (.seq (.reg [o1 93 (.mv (.t 6)), o1 94 (.fa 3 (.t 5)), o1 95 (.ld false 1 (.t 94)), o1 96 (.fa 4 (.t 5)), o1 97 (.ld false 1 (.t 96)), o1 98 (.fa 5 (.t 5)), o1 99 (.ld false 1 (.t 98)), o1 100 (.bs 3 1 3 [(.t 95), (.t 97), (.t 99)]), o1 101 (.callv (.t 93) [(.t 100)]), o1 102 (.mv (.t 101)), og 103 102 true (.ld true 4 (.t 2)), og 104 102 true (.mv (.t 1)), og 105 102 true (.fa 6 (.t 5)), og 106 102 true (.ld false 1 (.t 105)), og 107 102 true (.call 78 [(.t 103), (.t 104), (.t 106), (.c (.fn 79 []))]), o1 108 (.pick (.t 102) (.t 107) (.c (.bool false))), o1 4 (.mv (.t 108))] false) .ret) (.seq (.reg [o1 110 (.bin .eql (.t 17) (cI 13)), o1 109 (.mv (.t 110))] false) (.cond (.t 109) (.seq (.reg [o1 111 (.ld true 4 (.t 2)), o1 112 (.mv (.t 1)), o1 113 (.fa 3 (.t 5)), o1 114 (.ld false 1 (.t 113)), o1 115 (.call 48 [(.t 111), (.t 112), (.t 114), (.c (.fn 80 []))]), o1 116 (.mv (.t 115)), og 117 116 true (.ld true 4 (.t 2)), og 118 116 true (.mv (.t 1)), og 119 116 true (.fa 4 (.t 5)), og 120 116 true (.ld false 1 (.t 119)), og 121 116 true (.call 48 [(.t 117), (.t 118), (.t 120), (.c (.fn 77 []))]), o1 122 (.pick (.t 116) (.t 121) (.c (.bool false))), o1 123 (.mv (.t 122)), og 124 123 true (.mv (.t 6)), og 125 123 true (.fa 5 (.t 5)), og 126 123 true (.ld false 1 (.t 125)), og 127 123 true (.bs 3 1 1 [(.t 126)]), og 128 123 true (.callv (.t 124) [(.t 127)]), o1 129 (.pick (.t 123) (.t 128) (.c (.bool false))), o1 4 (.mv (.t 129))] false) .ret) (.seq (.reg [o1 131 (.bin .eql (.t 17) (cI 14)), o1 130 (.mv (.t 131))] false) (.cond (.t 130) (.seq (.reg [o1 132 (.ld true 4 (.t 2)), o1 133 (.mv (.t 1)), o1 134 (.fa 3 (.t 5)), o1 135 (.ld false 1 (.t 134)), o1 136 (.call 48 [(.t 132), (.t 133), (.t 135), (.c (.fn 77 []))]), o1 137 (.mv (.t 136)), og 138 137 true (.ld true 4 (.t 2)), og 139 137 true (.mv (.t 1)), og 140 137 true (.fa 4 (.t 5)), og 141 137 true (.ld false 1 (.t 140)), og 142 137 true (.call 48 [(.t 138), (.t 139), (.t 141), (.c (.fn 49 []))]), o1 143 (.pick (.t 137) (.t 142) (.c (.bool false))), o1 144 (.mv (.t 143)), og 145 144 true (.ld true 4 (.t 2)), og 146 144 true (.mv (.t 1)), og 147 144 true (.fa 5 (.t 5)), og 148 144 true (.ld false 1 (.t 147)), og 149 144 true (.call 81 [(.t 145), (.t 146), (.t 148), (.c (.fn 82 []))]), o1 150 (.pick (.t 144) (.t 149) (.c (.bool false))), o1 4 (.mv (.t 150))] false) .ret) (.seq (.reg [o1 152 (.bin .eql (.t 17) (cI 15)), o1 151 (.mv (.t 152))] false) (.cond (.t 151) (.seq (.reg [o1 153 (.ld true 4 (.t 2)), o1 154 (.mv (.t 1)), o1 155 (.fa 3 (.t 5)), o1 156 (.ld false 1 (.t 155)), o1 157 (.call 48 [(.t 153), (.t 154), (.t 156), (.c (.fn 77 []))]), o1 158 (.mv (.t 157)), og 159 158 true (.ld true 4 (.t 2)), og 160 158 true (.mv (.t 1)), og 161 158 true (.fa 4 (.t 5)), og 162 158 true (.ld false 1 (.t 161)), og 163 158 true (.call 48 [(.t 159), (.t 160), (.t 162), (.c (.fn 49 []))]), o1 164 (.pick (.t 158) (.t 163) (.c (.bool false))), o1 165 (.mv (.t 164)), og 166 165 true (.mv (.t 6)), og 167 165 true (.fa 5 (.t 5)), og 168 165 true (.ld false 1 (.t 167)), og 169 165 true (.bs 3 1 1 [(.t 168)]), og 170 165 true (.callv (.t 166) [(.t 169)]), o1 171 (.pick (.t 165) (.t 170) (.c (.bool false))), o1 4 (.mv (.t 171))] false) .ret) (.seq (.reg [o1 173 (.bin .eql (.t 17) (cI 16)), o1 172 (.mv (.t 173))] false) (.cond (.t 172) (.seq (.reg [o1 174 (.ld true 4 (.t 2)), o1 175 (.mv (.t 1)), o1 176 (.fa 3 (.t 5)), o1 177 (.ld false 1 (.t 176)), o1 178 (.call 48 [(.t 174), (.t 175), (.t 177), (.c (.fn 77 []))]), o1 179 (.mv (.t 178)), og 180 179 true (.ld true 4 (.t 2)), og 181 179 true (.mv (.t 1)), og 182 179 true (.fa 4 (.t 5)), og 183 179 true (.ld false 1 (.t 182)), og 184 179 true (.call 81 [(.t 180), (.t 181), (.t 183), (.c (.fn 49 []))]), o1 185 (.pick (.t 179) (.t 184) (.c (.bool false))), o1 186 (.mv (.t 185)), og 187 186 true (.mv (.t 6)), og 188 186 true (.fa 5 (.t 5)), og 189 186 true (.ld false 1 (.t 188)), og 190 186 true (.bs 3 1 1 [(.t 189)]), og 191 186 true (.callv (.t 187) [(.t 190)]), o1 192 (.pick (.t 186) (.t 191) (.c (.bool false))), o1 193 (.mv (.t 192)), og 194 193 true (.ld true 4 (.t 2)), og 195 193 true (.mv (.t 1)), og 196 193 true (.fa 7 (.t 5)), og 197 193 true (.ld false 1 (.t 196)), og 198 193 true (.call 83 [(.t 194), (.t 195), (.t 197)]), o1 199 (.pick (.t 193) (.t 198) (.c (.bool false))), o1 4 (.mv (.t 199))] false) .ret) (.seq (.reg [o1 201 (.bin .eql (.t 17) (cI 17)), o1 200 (.mv (.t 201))] false) (.cond (.t 200) (.seq (.reg [o1 202 (.ld true 4 (.t 2)), o1 203 (.mv (.t 1)), o1 204 (.fa 3 (.t 5)), o1 205 (.ld false 1 (.t 204)), o1 206 (.call 81 [(.t 202), (.t 203), (.t 205), (.c (.fn 77 []))]), o1 207 (.mv (.t 206)), og 208 207 true (.mv (.t 6)), og 209 207 true (.fa 4 (.t 5)), og 210 207 true (.ld false 1 (.t 209)), og 211 207 true (.fa 5 (.t 5)), og 212 207 true (.ld false 1 (.t 211)), og 213 207 true (.bs 3 1 2 [(.t 210), (.t 212)]), og 214 207 true (.callv (.t 208) [(.t 213)]), o1 215 (.pick (.t 207) (.t 214) (.c (.bool false))), o1 4 (.mv (.t 215))] false) .ret) (.seq (.reg [o1 217 (.bin .eql (.t 17) (cI 18)), o1 216 (.mv (.t 217))] false) (.cond (.t 216) (.seq (.reg [o1 218 (.ld true 4 (.t 2)), o1 219 (.mv (.t 1)), o1 220 (.fa 3 (.t 5)), o1 221 (.ld false 1 (.t 220)), o1 222 (.call 48 [(.t 218), (.t 219), (.t 221), (.c (.fn 84 []))]), o1 223 (.mv (.t 222)), og 224 223 true (.mv (.t 6)), og 225 223 true (.fa 4 (.t 5)), og 226 223 true (.ld false 1 (.t 225)), og 227 223 true (.fa 5 (.t 5)), og 228 223 true (.ld false 1 (.t 227)), og 229 223 true (.bs 3 1 2 [(.t 226), (.t 228)]), og 230 223 true (.callv (.t 224) [(.t 229)]), o1 231 (.pick (.t 223) (.t 230) (.c (.bool false))), o1 4 (.mv (.t 231))] false) .ret) .skip)))))))))))))))))))))))) (.seq (.reg [o1 4 (.mv (.c (.bool false)))] false) .ret))))))
theorem tr46 : tr Try.prog (Try.f46.body.getD .skip) = some c46 := by kernel_rfl
set_option maxHeartbeats 4000000
def noneB (l : List Int) : Bool := !l.any fun x => !decide (x = -1)
def exprB (k : Int) : Bool := decide (1 ≤ k ∧ k ≤ 10)
def stmtB (k : Int) : Bool := decide (12 ≤ k ∧ k ≤ 18)
def blockB (k : Int) : Bool := decide (k = 11)
def callB (k : Int) : Bool := decide (k = 8)
def otherB (k : Int) : Bool := decide (k = 11 ∨ k = 14)
def placeB (k : Int) : Bool := decide (k = 4 ∨ k = 9)
def Cod.some (c : Cod) (pl i : Int) (p : Int → Bool) : Bool := decide (i = -1) || c.child pl i p
def Cod.all (c : Cod) (pl : Int) (l : List Int) (p : Int → Bool) : Bool := !l.any fun i => !c.child pl i p
def Cod.kindRight (c : Cod) (pl : Int) (n : Nod) : Bool :=
  if n.Kind = 1 ∨ n.Kind = 2 ∨ n.Kind = 3 ∨ n.Kind = 4 ∨ n.Kind = 10 then noneB [n.A, n.B, n.C]
  else if n.Kind = 5 ∨ n.Kind = 6 ∨ n.Kind = 9 ∨ n.Kind = 12 then c.child pl n.A exprB && noneB [n.B, n.C]
  else if n.Kind = 7 then c.child pl n.A exprB && c.child pl n.B exprB && noneB [n.C]
  else if n.Kind = 8 then noneB [n.A, n.B, n.C] && c.all pl n.L exprB
  else if n.Kind = 11 then noneB [n.A, n.B, n.C] && c.all pl n.L stmtB
  else if n.Kind = 13 then c.child pl n.A placeB && c.child pl n.B exprB && noneB [n.C]
  else if n.Kind = 14 then c.child pl n.A exprB && c.child pl n.B blockB && c.some pl n.C otherB
  else if n.Kind = 15 then c.child pl n.A exprB && c.child pl n.B blockB && noneB [n.C]
  else if n.Kind = 16 then c.child pl n.A exprB && c.some pl n.B blockB && noneB [n.C] && !n.Cases.any (c.caseBad pl)
  else if n.Kind = 17 then c.some pl n.A exprB && noneB [n.B, n.C]
  else if n.Kind = 18 then c.child pl n.A callB && noneB [n.B, n.C]
  else false
structure Cod.Ok (c : Cod) : Prop where
  l : c.L.length ≤ 1000000000
  n : ∀ n ∈ c.L, n.L.length ≤ 1000000000 ∧ n.Cases.length ≤ 1000000000 ∧ ∀ x ∈ n.Cases, x.L.length ≤ 140737488355328
theorem right_pure (c : Cod) (ok : c.Ok) (k : Nat) (h : k < c.L.length) : Pure Try.prog 46 [.agg c.enc, i64 k] (.bool (c.L[k].plain && c.kindRight k c.L[k])) := by
  refine walk_of mo Try.func46 tr46 (rs := [.tmp 4]) (by rfl) (by rfl) ?_
  unfold c46
  obtain ⟨o1, o2, o3⟩ := ok.n _ (List.getElem_mem h)
  generalize hn : c.L[k] = n at *
  simp [Cod.enc, h, hn, Nod.enc, cut, one, spl, ints]
  refine call_t (ts := [.agg n.enc]) _ (plain_pure n o1 o2) (by simp) ?_
  cases hp : n.plain with
  | false => simp
  | true =>
    by_cases k1 : n.Kind = 1 ∨ n.Kind = 2 ∨ n.Kind = 3 ∨ n.Kind = 4 ∨ n.Kind = 10
    · have hk : c.kindRight k n = noneB [n.A, n.B, n.C] := by unfold Cod.kindRight; rw [if_pos k1]
      rw [hk]
      rcases k1 with e | e | e | e | e
      all_goals
        simp [e]
        refine call_intro (ts := [ints [n.A, n.B, n.C]]) (by simp [cut, ints]) (.bool (noneB [n.A, n.B, n.C])) (none_pure [n.A, n.B, n.C] (by simp)) (.inr (by rfl)) ?_
        simp
    · by_cases k2 : n.Kind = 5 ∨ n.Kind = 6 ∨ n.Kind = 9 ∨ n.Kind = 12
      · have hk : c.kindRight k n = (c.child k n.A exprB && noneB [n.B, n.C]) := by unfold Cod.kindRight; rw [if_neg k1, if_pos k2]
        rw [hk]
        rcases k2 with e | e | e | e
        all_goals
          simp [e]
          refine call_t (ts := [.agg c.enc, i64 k, i64 n.A, .fn 77 []]) (.bool (c.child k n.A exprB)) (child_pure c k n.A 77 [] exprB (by simp) (fun x => expr_pure x) (by omega) ok.l) (by simp) ?_
          cases hA : c.child k n.A exprB with
          | false => simp
          | true =>
            simp
            refine call_intro (ts := [ints [n.B, n.C]]) (by simp [cut, ints]) (.bool (noneB [n.B, n.C])) (none_pure [n.B, n.C] (by simp)) (.inr (by rfl)) ?_
            simp
      · by_cases e : n.Kind = 7
        · have hk : c.kindRight k n = (c.child k n.A exprB && c.child k n.B exprB && noneB [n.C]) := by unfold Cod.kindRight; rw [if_neg k1, if_neg k2, if_pos e]
          rw [hk]
          simp [e]
          refine call_t (ts := [.agg c.enc, i64 k, i64 n.A, .fn 77 []]) (.bool (c.child k n.A exprB)) (child_pure c k n.A 77 [] exprB (by simp) (fun x => expr_pure x) (by omega) ok.l) (by simp) ?_
          cases q3 : c.child k n.A exprB with
          | false => simp
          | true =>
            simp
            refine call_t (ts := [.agg c.enc, i64 k, i64 n.B, .fn 77 []]) (.bool (c.child k n.B exprB)) (child_pure c k n.B 77 [] exprB (by simp) (fun x => expr_pure x) (by omega) ok.l) (by simp) ?_
            cases q2 : c.child k n.B exprB with
            | false => simp
            | true =>
              simp
              refine call_intro (ts := [ints [n.C]]) (by simp [cut, ints]) (.bool (noneB [n.C])) (none_pure [n.C] (by simp)) (.inr (by rfl)) ?_
              simp
        · have e7 := e
          clear e
          by_cases e : n.Kind = 8
          · have hk : c.kindRight k n = (noneB [n.A, n.B, n.C] && c.all k n.L exprB) := by unfold Cod.kindRight; rw [if_neg k1, if_neg k2, if_neg e7, if_pos e]
            rw [hk]
            simp [e]
            refine call_intro (ts := [ints [n.A, n.B, n.C]]) (by simp [cut, ints]) (.bool (noneB [n.A, n.B, n.C])) (none_pure [n.A, n.B, n.C] (by simp)) (.inr (by rfl)) ?_
            cases q2 : noneB [n.A, n.B, n.C] with
            | false => simp
            | true =>
              simp
              refine call_t (ts := [.agg c.enc, i64 k, ints n.L, .fn 77 []]) (.bool (c.all k n.L exprB)) (all_pure c k n.L 77 [] exprB (by simp) (fun x => expr_pure x) (by omega) ok.l (by omega)) (by simp) ?_
              simp
          · have e8 := e
            clear e
            by_cases e : n.Kind = 11
            · have hk : c.kindRight k n = (noneB [n.A, n.B, n.C] && c.all k n.L stmtB) := by unfold Cod.kindRight; rw [if_neg k1, if_neg k2, if_neg e7, if_neg e8, if_pos e]
              rw [hk]
              simp [e]
              refine call_intro (ts := [ints [n.A, n.B, n.C]]) (by simp [cut, ints]) (.bool (noneB [n.A, n.B, n.C])) (none_pure [n.A, n.B, n.C] (by simp)) (.inr (by rfl)) ?_
              cases q2 : noneB [n.A, n.B, n.C] with
              | false => simp
              | true =>
                simp
                refine call_t (ts := [.agg c.enc, i64 k, ints n.L, .fn 79 []]) (.bool (c.all k n.L stmtB)) (all_pure c k n.L 79 [] stmtB (by simp) (fun x => stmt_pure x) (by omega) ok.l (by omega)) (by simp) ?_
                simp
            · have e11 := e
              clear e
              by_cases e : n.Kind = 13
              · have hk : c.kindRight k n = (c.child k n.A placeB && c.child k n.B exprB && noneB [n.C]) := by unfold Cod.kindRight; rw [if_neg k1, if_neg k2, if_neg e7, if_neg e8, if_neg e11, if_pos e]
                rw [hk]
                simp [e]
                refine call_t (ts := [.agg c.enc, i64 k, i64 n.A, .fn 80 []]) (.bool (c.child k n.A placeB)) (child_pure c k n.A 80 [] placeB (by simp) (fun x => place_pure x) (by omega) ok.l) (by simp) ?_
                cases q3 : c.child k n.A placeB with
                | false => simp
                | true =>
                  simp
                  refine call_t (ts := [.agg c.enc, i64 k, i64 n.B, .fn 77 []]) (.bool (c.child k n.B exprB)) (child_pure c k n.B 77 [] exprB (by simp) (fun x => expr_pure x) (by omega) ok.l) (by simp) ?_
                  cases q2 : c.child k n.B exprB with
                  | false => simp
                  | true =>
                    simp
                    refine call_intro (ts := [ints [n.C]]) (by simp [cut, ints]) (.bool (noneB [n.C])) (none_pure [n.C] (by simp)) (.inr (by rfl)) ?_
                    simp
              · have e13 := e
                clear e
                by_cases e : n.Kind = 14
                · have hk : c.kindRight k n = (c.child k n.A exprB && c.child k n.B blockB && c.some k n.C otherB) := by unfold Cod.kindRight; rw [if_neg k1, if_neg k2, if_neg e7, if_neg e8, if_neg e11, if_neg e13, if_pos e]
                  rw [hk]
                  simp [e]
                  refine call_t (ts := [.agg c.enc, i64 k, i64 n.A, .fn 77 []]) (.bool (c.child k n.A exprB)) (child_pure c k n.A 77 [] exprB (by simp) (fun x => expr_pure x) (by omega) ok.l) (by simp) ?_
                  cases q3 : c.child k n.A exprB with
                  | false => simp
                  | true =>
                    simp
                    refine call_t (ts := [.agg c.enc, i64 k, i64 n.B, .fn 49 []]) (.bool (c.child k n.B blockB)) (child_pure c k n.B 49 [] blockB (by simp) (fun x => block_pure x) (by omega) ok.l) (by simp) ?_
                    cases q2 : c.child k n.B blockB with
                    | false => simp
                    | true =>
                      simp
                      refine call_t (ts := [.agg c.enc, i64 k, i64 n.C, .fn 82 []]) (.bool (c.some k n.C otherB)) (some_pure c k n.C 82 [] otherB (by simp) (fun x => other_pure x) (by omega) ok.l) (by simp) ?_
                      simp
                · have e14 := e
                  clear e
                  by_cases e : n.Kind = 15
                  · have hk : c.kindRight k n = (c.child k n.A exprB && c.child k n.B blockB && noneB [n.C]) := by unfold Cod.kindRight; rw [if_neg k1, if_neg k2, if_neg e7, if_neg e8, if_neg e11, if_neg e13, if_neg e14, if_pos e]
                    rw [hk]
                    simp [e]
                    refine call_t (ts := [.agg c.enc, i64 k, i64 n.A, .fn 77 []]) (.bool (c.child k n.A exprB)) (child_pure c k n.A 77 [] exprB (by simp) (fun x => expr_pure x) (by omega) ok.l) (by simp) ?_
                    cases q3 : c.child k n.A exprB with
                    | false => simp
                    | true =>
                      simp
                      refine call_t (ts := [.agg c.enc, i64 k, i64 n.B, .fn 49 []]) (.bool (c.child k n.B blockB)) (child_pure c k n.B 49 [] blockB (by simp) (fun x => block_pure x) (by omega) ok.l) (by simp) ?_
                      cases q2 : c.child k n.B blockB with
                      | false => simp
                      | true =>
                        simp
                        refine call_intro (ts := [ints [n.C]]) (by simp [cut, ints]) (.bool (noneB [n.C])) (none_pure [n.C] (by simp)) (.inr (by rfl)) ?_
                        simp
                  · have e15 := e
                    clear e
                    by_cases e : n.Kind = 16
                    · have hk : c.kindRight k n = (c.child k n.A exprB && c.some k n.B blockB && noneB [n.C] && !n.Cases.any (c.caseBad k)) := by unfold Cod.kindRight; rw [if_neg k1, if_neg k2, if_neg e7, if_neg e8, if_neg e11, if_neg e13, if_neg e14, if_neg e15, if_pos e]
                      rw [hk]
                      simp [e]
                      refine call_t (ts := [.agg c.enc, i64 k, i64 n.A, .fn 77 []]) (.bool (c.child k n.A exprB)) (child_pure c k n.A 77 [] exprB (by simp) (fun x => expr_pure x) (by omega) ok.l) (by simp) ?_
                      cases q4 : c.child k n.A exprB with
                      | false => simp
                      | true =>
                        simp
                        refine call_t (ts := [.agg c.enc, i64 k, i64 n.B, .fn 49 []]) (.bool (c.some k n.B blockB)) (some_pure c k n.B 49 [] blockB (by simp) (fun x => block_pure x) (by omega) ok.l) (by simp) ?_
                        cases q3 : c.some k n.B blockB with
                        | false => simp
                        | true =>
                          simp
                          refine call_intro (ts := [ints [n.C]]) (by simp [cut, ints]) (.bool (noneB [n.C])) (none_pure [n.C] (by simp)) (.inr (by rfl)) ?_
                          cases q2 : noneB [n.C] with
                          | false => simp
                          | true =>
                            simp
                            refine call_t (ts := [.agg c.enc, i64 k, .lst 2 (n.Cases.map Cas.enc)]) (.bool (!n.Cases.any (c.caseBad k))) (cases_pure c k n.Cases (by omega) ok.l (by omega) o3) (by simp) ?_
                            simp
                    · have e16 := e
                      clear e
                      by_cases e : n.Kind = 17
                      · have hk : c.kindRight k n = (c.some k n.A exprB && noneB [n.B, n.C]) := by unfold Cod.kindRight; rw [if_neg k1, if_neg k2, if_neg e7, if_neg e8, if_neg e11, if_neg e13, if_neg e14, if_neg e15, if_neg e16, if_pos e]
                        rw [hk]
                        simp [e]
                        refine call_t (ts := [.agg c.enc, i64 k, i64 n.A, .fn 77 []]) (.bool (c.some k n.A exprB)) (some_pure c k n.A 77 [] exprB (by simp) (fun x => expr_pure x) (by omega) ok.l) (by simp) ?_
                        cases q2 : c.some k n.A exprB with
                        | false => simp
                        | true =>
                          simp
                          refine call_intro (ts := [ints [n.B, n.C]]) (by simp [cut, ints]) (.bool (noneB [n.B, n.C])) (none_pure [n.B, n.C] (by simp)) (.inr (by rfl)) ?_
                          simp
                      · have e17 := e
                        clear e
                        by_cases e : n.Kind = 18
                        · have hk : c.kindRight k n = (c.child k n.A callB && noneB [n.B, n.C]) := by unfold Cod.kindRight; rw [if_neg k1, if_neg k2, if_neg e7, if_neg e8, if_neg e11, if_neg e13, if_neg e14, if_neg e15, if_neg e16, if_neg e17, if_pos e]
                          rw [hk]
                          simp [e]
                          refine call_t (ts := [.agg c.enc, i64 k, i64 n.A, .fn 84 []]) (.bool (c.child k n.A callB)) (child_pure c k n.A 84 [] callB (by simp) (fun x => call_pure x) (by omega) ok.l) (by simp) ?_
                          cases q2 : c.child k n.A callB with
                          | false => simp
                          | true =>
                            simp
                            refine call_intro (ts := [ints [n.B, n.C]]) (by simp [cut, ints]) (.bool (noneB [n.B, n.C])) (none_pure [n.B, n.C] (by simp)) (.inr (by rfl)) ?_
                            simp
                        · have e18 := e
                          clear e
                          have hk : c.kindRight k n = false := by unfold Cod.kindRight; rw [if_neg k1, if_neg k2, if_neg e7, if_neg e8, if_neg e11, if_neg e13, if_neg e14, if_neg e15, if_neg e16, if_neg e17, if_neg e18]
                          rw [hk]
                          simp only [not_or] at k1 k2
                          simp [k1, k2, e7, e8, e11, e13, e14, e15, e16, e17, e18]


end Go.Eng
