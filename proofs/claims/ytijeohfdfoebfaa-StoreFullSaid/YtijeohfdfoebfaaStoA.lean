/- What the program's functions 6,7,8,10,11,12,14,20,21,23,24 compute (numbers of this seat): contracts, walked by the engine. -/
import Derived.Test.YtijeohfdfoebfaaEngU
import Derived.Test.YtijeohfdfoebfaaProg
namespace Go.Eng
open Go Go.Proofs
set_option maxRecDepth 100000
set_option linter.all false
def c6 : Cd := (.seq (.reg [o1 0 (.mv (.c (.bool false)))] false) (.seq (.reg [o1 6 (.call 7 []), o1 1 (.mv (.t 6))] false) (.seq (.reg [o1 8 (.mv (.t 1)), o1 9 (.bld [.int .i64 0, .int .i64 0] [(0, 1, (cI 1)), (1, 1, (cI 5))]), o1 10 (.bs 23 2 1 [(.t 9)]), o1 11 (.call 8 [(.t 8), (cI 0), (.t 10)]), o1 7 (.mv (.t 11)), o1 12 (.ext 0 (.t 7)), o1 13 (.ext 1 (.t 7)), o1 2 (.mv (.t 12)), o1 3 (.mv (.t 13))] false) (.seq (.reg [o1 15 (.mv (.t 1)), o1 16 (.call 12 [(.t 15), (cI 0), (cI 0)]), o1 14 (.mv (.t 16)), o1 17 (.ext 0 (.t 14)), o1 18 (.ext 1 (.t 14)), o1 4 (.new [.int .i64 0, .int .i64 0]), o0 (.st 2 (.t 4) (.t 17)), o1 5 (.mv (.t 18))] false) (.seq (.reg [o1 19 (.mv (.t 2)), o1 20 (.bin .eql (.t 19) (cI 0)), o1 21 (.mv (.t 20)), og 22 21 true (.mv (.t 3)), og 23 21 true (.bin .eql (.t 22) (cI 0)), o1 24 (.pick (.t 21) (.t 23) (.c (.bool false))), o1 25 (.mv (.t 24)), og 26 25 true (.mv (.t 5)), og 27 25 true (.bin .eql (.t 26) (cI 0)), o1 28 (.pick (.t 25) (.t 27) (.c (.bool false))), o1 29 (.mv (.t 28)), og 30 29 true (.ld true 2 (.t 4)), og 31 29 true (.bld [.int .i64 0, .int .i64 0] [(0, 1, (cI 1)), (1, 1, (cI 5))]), og 32 29 true (.eqs false [1, 1] (.t 30) (.t 31)), o1 33 (.pick (.t 29) (.t 32) (.c (.bool false))), o1 34 (.mv (.t 33)), og 35 34 true (.call 14 [(.c (.str ⟨#[42, 120]⟩))]), og 36 34 true (.fld false 1 0 (.t 35)), og 37 34 true (.bin .eql (.t 36) (cI 4)), o1 38 (.pick (.t 34) (.t 37) (.c (.bool false))), o1 39 (.mv (.t 38)), o1 40 (.pick (.t 39) (.c (.bool true)) (.c (.bool false))), o1 0 (.mv (.t 40))] false) .ret)))))
theorem tr6 : tr Try.prog (Try.f6.body.getD .skip) = some c6 := by kernel_rfl
def c7 : Cd := (.seq (.reg [o1 0 (.mv (.c (.nilp)))] false) (.seq (.reg [o1 1 (.bld [.nils, .nils, .nils] []), o1 2 (.box true 3 (.t 1)), o1 0 (.mv (.t 2))] false) .ret))
theorem tr7 : tr Try.prog (Try.f7.body.getD .skip) = some c7 := by kernel_rfl
def c8 : Cd := (.seq (.reg [o1 6 (.mv (cI 0)), o1 7 (.mv (cI 0))] false) (.seq (.seq (.reg [o1 8 (.mv (.t 0)), o1 9 (.isnil false 0 (.t 8)), o1 10 (.mv (.t 9)), og 11 10 false (.mv (.t 0)), og 12 10 false (.nck (.t 11)), og 13 10 false (.fa 0 (.t 12)), og 14 10 false (.ld false 1 (.t 13)), og 15 10 false (.len (.t 14)), og 16 10 false (.bin .eql (.t 15) (cI 100000)), o1 17 (.pick (.t 10) (.c (.bool true)) (.t 16))] false) (.cond (.t 17) (.seq (.reg [o1 6 (.mv (cI 0)), o1 7 (.mv (cI 8))] false) .ret) .skip)) (.seq (.reg [oa 18 [] (.mv (.t 0)), oa 19 [] (.mv (.t 0)), oa 20 [] (.mv (.t 0)), oa 21 [2] (.nck (.t 20)), oa 22 [3] (.fa 0 (.t 21)), oa 23 [4] (.ld false 1 (.t 22)), oa 24 [] (.mv (.t 1)), oa 25 [6] (.bs 3 1 1 [(.t 24)]), oa 26 [5, 7] (.app 3 1 8 (.t 23) (.t 25)), oa 27 [] (.mv (.t 0)), oa 28 [9] (.nck (.t 27)), oa 29 [10] (.fa 1 (.t 28)), oa 30 [11] (.ldf [26] false 1 (.t 29)), oa 31 [] (.mv (.t 0)), oa 32 [13] (.nck (.t 31)), oa 33 [14] (.fa 2 (.t 32)), oa 34 [15] (.ldf [26] false 1 (.t 33)), oa 35 [16] (.len (.t 34)), oa 36 [17] (.bs 3 1 1 [(.t 35)]), oa 37 [12, 18, 8] (.app 3 1 8 (.t 30) (.t 36)), oa 38 [0, 0, 2, 3, 4, 5, 6, 7, 8, 12, 16, 19] (.nck (.t 18)), oa 39 [20, 0, 2, 3, 4, 5, 6, 7, 8, 12, 16, 19] (.fa 0 (.t 38)), ob [21, 8, 19, 0, 2, 3, 4, 5, 6, 7, 8, 12, 16, 19] (.st 1 (.t 39) (.t 26)), oa 40 [1, 0, 1, 2, 3, 4, 5, 6, 7, 8, 9, 10, 11, 12, 13, 14, 15, 16, 17, 18, 19, 20, 21, 22] (.nck (.t 19)), oa 41 [23, 0, 1, 2, 3, 4, 5, 6, 7, 8, 9, 10, 11, 12, 13, 14, 15, 16, 17, 18, 19, 20, 21, 22] (.fa 1 (.t 40)), ob [24, 19, 22, 0, 1, 2, 3, 4, 5, 6, 7, 8, 9, 10, 11, 12, 13, 14, 15, 16, 17, 18, 19, 20, 21, 22] (.st 1 (.t 41) (.t 37))] true) (.seq (.reg [o1 42 (.mv (.t 0)), o1 43 (.mv (.t 0)), o1 44 (.nck (.t 43)), o1 45 (.fa 2 (.t 44)), o1 46 (.ld false 1 (.t 45)), o1 47 (.mv (.t 2)), o1 48 (.app 23 2 16 (.t 46) (.t 47)), o1 49 (.nck (.t 42)), o1 50 (.fa 2 (.t 49)), o0 (.st 1 (.t 50) (.t 48))] false) (.seq (.reg [o1 51 (.mv (.t 0)), o1 52 (.nck (.t 51)), o1 53 (.fa 0 (.t 52)), o1 54 (.ld false 1 (.t 53)), o1 55 (.len (.t 54)), o1 56 (.bin .sub (.t 55) (cI 1)), o1 6 (.mv (.t 56)), o1 7 (.mv (cI 0))] false) .ret)))))
theorem tr8 : tr Try.prog (Try.f8.body.getD .skip) = some c8 := by kernel_rfl
def c10 : Cd := (.seq (.reg [o1 2 (.mv (.c (.nils)))] false) (.seq (.reg [o1 3 (.mv (.c (.nils)))] false) (.seq (.seq (.reg [o1 5 (.mv (.t 0)), o1 6 (.call 21 [(.t 5)]), o1 7 (.mv (cI 0))] false) (.blk 0 (.loop (.seq (.reg [o1 8 (.bin .lss (.t 7) (.t 6))] false) (.seq (.cond (.t 8) .skip (.exit 0)) (.seq (.blk 1 (.seq (.reg [o1 9 (.mv (.t 7)), o1 4 (.mv (.t 9))] false) (.reg [oa 10 [] (.mv (.t 3)), oa 11 [] (.mv (.t 0)), oa 12 [1] (.nck (.t 11)), oa 13 [2] (.fa 0 (.t 12)), oa 14 [3] (.ld false 1 (.t 13)), oa 15 [] (.mv (.t 4)), oa 16 [4, 5] (.ia 1 (.t 14) (.t 15)), oa 17 [6] (.ld false 1 (.t 16)), oa 18 [] (.mv (.t 0)), oa 19 [] (.mv (.t 4)), oa 20 [8, 9] (.call 23 [(.t 18), (.t 19)]), oa 21 [10, 10] (.call 22 [(.t 20)]), oa 22 [7, 11] (.bld [.int .i64 0, .nils] [(0, 1, (.t 17)), (1, 1, (.t 21))]), oa 23 [12] (.bs 38 2 1 [(.t 22)]), oa 24 [0, 13, 11] (.app 38 2 32 (.t 10) (.t 23)), oa 3 [14, 14, 0, 1, 2, 3, 4, 5, 6, 7, 8, 9, 10, 11, 12, 13, 14] (.mv (.t 24))] true))) (.reg [o1 25 (.bin .add (.t 7) (cI 1)), o1 7 (.mv (.t 25))] false))))))) (.seq (.reg [o1 26 (.mv (.t 3)), o1 2 (.mv (.t 26))] false) .ret))))
theorem tr10 : tr Try.prog (Try.f10.body.getD .skip) = some c10 := by kernel_rfl
def c11 : Cd := (.seq (.reg [o1 7 (.box true 2 (.t 3)), o1 8 (.mv (cI 0))] false) (.seq (.reg [o1 10 (.mv (.t 0)), o1 11 (.mv (.t 1)), o1 12 (.mv (.t 2)), o1 13 (.call 24 [(.t 10), (.t 11), (.t 12)]), o1 9 (.mv (.t 13))] false) (.seq (.seq (.reg [o1 14 (.mv (.t 9)), o1 15 (.isnil false 0 (.t 14))] false) (.cond (.t 15) (.seq (.reg [o1 8 (.mv (cI 3))] false) .ret) .skip)) (.seq (.reg [o1 16 (.mv (.t 9)), o1 17 (.ld true 2 (.t 7)), o1 18 (.nck (.t 16)), o0 (.st 2 (.t 18) (.t 17))] false) (.seq (.reg [o1 8 (.mv (cI 0))] false) .ret)))))
theorem tr11 : tr Try.prog (Try.f11.body.getD .skip) = some c11 := by kernel_rfl
def c12 : Cd := (.seq (.reg [o1 6 (.new [.int .i64 0, .int .i64 0]), o1 7 (.mv (cI 0))] false) (.seq (.reg [o1 9 (.mv (.t 0)), o1 10 (.mv (.t 1)), o1 11 (.mv (.t 2)), o1 12 (.call 24 [(.t 9), (.t 10), (.t 11)]), o1 8 (.mv (.t 12))] false) (.seq (.seq (.reg [o1 13 (.mv (.t 8)), o1 14 (.isnil false 0 (.t 13))] false) (.cond (.t 14) (.seq (.reg [o1 15 (.bld [.int .i64 0, .int .i64 0] []), o0 (.st 2 (.t 6) (.t 15)), o1 7 (.mv (cI 3))] false) .ret) .skip)) (.seq (.reg [o1 16 (.mv (.t 8)), o1 17 (.nck (.t 16)), o1 18 (.ld true 2 (.t 17)), o0 (.st 2 (.t 6) (.t 18)), o1 7 (.mv (cI 0))] false) .ret))))
theorem tr12 : tr Try.prog (Try.f12.body.getD .skip) = some c12 := by kernel_rfl
def c14 : Cd := (.seq (.reg [o1 2 (.new [.int .i64 0, .int .i64 0])] false) (.seq (.seq (.reg [o1 3 (.mv (.t 0))] false) (.blk 0 (.seq (.reg [o1 5 (.bin .eql (.t 3) (.c (.str ⟨#[105, 110, 116]⟩))), o1 4 (.mv (.t 5))] false) (.cond (.t 4) (.seq (.reg [o1 6 (.bld [.int .i64 0, .int .i64 0] [(0, 1, (cI 1))]), o0 (.st 2 (.t 2) (.t 6))] false) .ret) (.seq (.reg [o1 8 (.bin .eql (.t 3) (.c (.str ⟨#[98, 111, 111, 108]⟩))), o1 7 (.mv (.t 8))] false) (.cond (.t 7) (.seq (.reg [o1 9 (.bld [.int .i64 0, .int .i64 0] [(0, 1, (cI 2))]), o0 (.st 2 (.t 2) (.t 9))] false) .ret) .skip)))))) (.seq (.reg [o1 10 (.bld [.int .i64 0, .int .i64 0] [(0, 1, (cI 4))]), o0 (.st 2 (.t 2) (.t 10))] false) .ret)))
theorem tr14 : tr Try.prog (Try.f14.body.getD .skip) = some c14 := by kernel_rfl
def c20 : Cd := (.seq (.reg [o1 2 (.mv (.c (.nilp)))] false) (.seq (.seq (.reg [o1 3 (.mv (.t 0)), o1 4 (.isnil false 0 (.t 3))] false) (.cond (.t 4) (.seq (.reg [o1 2 (.mv (.c (.nilp)))] false) .ret) .skip)) (.seq (.reg [oa 5 [] (.mv (.t 0)), oa 6 [0] (.nck (.t 5)), oa 7 [1] (.fa 0 (.t 6)), oa 8 [2] (.ld false 1 (.t 7)), oa 9 [3] (.call 26 [(.t 8)]), oa 10 [] (.mv (.t 0)), oa 11 [5] (.nck (.t 10)), oa 12 [6] (.fa 1 (.t 11)), oa 13 [7] (.ld false 1 (.t 12)), oa 14 [8, 4] (.call 26 [(.t 13)]), oa 15 [] (.mv (.t 0)), oa 16 [10] (.nck (.t 15)), oa 17 [11] (.fa 2 (.t 16)), oa 18 [12] (.ld false 1 (.t 17)), oa 19 [13, 9] (.callw 22 [(.t 18)]), oa 20 [4, 9, 14] (.bld [.nils, .nils, .nils] [(0, 1, (.t 9)), (1, 1, (.t 14)), (2, 1, (.t 19))]), oa 21 [15] (.box true 3 (.t 20)), oa 2 [16, 14, 0, 1, 2, 3, 4, 5, 6, 7, 8, 9, 10, 11, 12, 13, 14, 15, 16] (.mv (.t 21))] true) .ret)))
theorem tr20 : tr Try.prog (Try.f20.body.getD .skip) = some c20 := by kernel_rfl
def c21 : Cd := (.seq (.reg [o1 2 (.mv (cI 0))] false) (.seq (.seq (.reg [o1 3 (.mv (.t 0)), o1 4 (.isnil false 0 (.t 3))] false) (.cond (.t 4) (.seq (.reg [o1 2 (.mv (cI 0))] false) .ret) .skip)) (.seq (.reg [o1 5 (.mv (.t 0)), o1 6 (.nck (.t 5)), o1 7 (.fa 0 (.t 6)), o1 8 (.ld false 1 (.t 7)), o1 9 (.len (.t 8)), o1 2 (.mv (.t 9))] false) .ret)))
theorem tr21 : tr Try.prog (Try.f21.body.getD .skip) = some c21 := by kernel_rfl
def c23 : Cd := (.seq (.reg [o1 4 (.mv (.c (.nils)))] false) (.seq (.reg [o1 6 (.mv (.t 0)), o1 7 (.nck (.t 6)), o1 8 (.fa 2 (.t 7)), o1 9 (.ld false 1 (.t 8)), o1 10 (.len (.t 9)), o1 5 (.mv (.t 10))] false) (.seq (.seq (.reg [o1 11 (.mv (.t 1)), o1 12 (.bin .add (.t 11) (cI 1)), o1 13 (.mv (.t 0)), o1 14 (.nck (.t 13)), o1 15 (.fa 1 (.t 14)), o1 16 (.ld false 1 (.t 15)), o1 17 (.len (.t 16)), o1 18 (.bin .lss (.t 12) (.t 17))] false) (.cond (.t 18) (.reg [o1 19 (.mv (.t 0)), o1 20 (.nck (.t 19)), o1 21 (.fa 1 (.t 20)), o1 22 (.ld false 1 (.t 21)), o1 23 (.mv (.t 1)), o1 24 (.bin .add (.t 23) (cI 1)), o1 25 (.ia 1 (.t 22) (.t 24)), o1 26 (.ld false 1 (.t 25)), o1 5 (.mv (.t 26))] false) .skip)) (.seq (.reg [oa 27 [] (.mv (.t 0)), oa 28 [0] (.nck (.t 27)), oa 29 [1] (.fa 2 (.t 28)), oa 30 [2] (.ld false 1 (.t 29)), oa 31 [] (.mv (.t 0)), oa 32 [4] (.nck (.t 31)), oa 33 [5] (.fa 1 (.t 32)), oa 34 [6] (.ld false 1 (.t 33)), oa 35 [] (.mv (.t 1)), oa 36 [7, 8] (.ia 1 (.t 34) (.t 35)), oa 37 [9] (.ld false 1 (.t 36)), oa 38 [] (.mv (.t 5)), oa 39 [3, 10, 11] (.sl 2 (.t 30) (some (.t 37)) (some (.t 38))), oa 4 [12, 0, 1, 2, 3, 4, 5, 6, 7, 8, 9, 10, 11, 12] (.mv (.t 39))] true) .ret))))
theorem tr23 : tr Try.prog (Try.f23.body.getD .skip) = some c23 := by kernel_rfl
def c24 : Cd := (.seq (.reg [o1 6 (.mv (.c (.nilp)))] false) (.seq (.seq (.reg [o1 8 (.mv (.t 1)), o1 9 (.bin .lss (.t 8) (cI 0)), o1 10 (.mv (.t 9)), og 11 10 false (.mv (.t 1)), og 12 10 false (.mv (.t 0)), og 13 10 false (.call 21 [(.t 12)]), og 14 10 false (.bin .geq (.t 11) (.t 13)), o1 15 (.pick (.t 10) (.c (.bool true)) (.t 14))] false) (.cond (.t 15) (.seq (.reg [o1 6 (.mv (.c (.nilp)))] false) .ret) .skip)) (.seq (.reg [o1 16 (.mv (.t 0)), o1 17 (.mv (.t 1)), o1 18 (.call 23 [(.t 16), (.t 17)]), o1 7 (.mv (.t 18))] false) (.seq (.seq (.reg [o1 19 (.mv (.t 2)), o1 20 (.bin .lss (.t 19) (cI 0)), o1 21 (.mv (.t 20)), og 22 21 false (.mv (.t 2)), og 23 21 false (.mv (.t 7)), og 24 21 false (.len (.t 23)), og 25 21 false (.bin .geq (.t 22) (.t 24)), o1 26 (.pick (.t 21) (.c (.bool true)) (.t 25))] false) (.cond (.t 26) (.seq (.reg [o1 6 (.mv (.c (.nilp)))] false) .ret) .skip)) (.seq (.reg [o1 27 (.mv (.t 7)), o1 28 (.mv (.t 2)), o1 29 (.ia 2 (.t 27) (.t 28)), o1 6 (.mv (.t 29))] false) .ret)))))
theorem tr24 : tr Try.prog (Try.f24.body.getD .skip) = some c24 := by kernel_rfl
set_option maxHeartbeats 1000000
attribute [local simp] cut spl one fillT
theorem mo : Try.prog.follows .mixedOrders = true := by kernel_rfl
theorem len_nil : Pure Try.prog 21 [.nilp] (i64 0) := by
  refine walk_of mo Try.func21 tr21 (rs := [.tmp 2]) (by rfl) (by rfl) ?_
  unfold c21
  simp [retR_v]
theorem make_nil (typ : Int) : Pure Try.prog 8 [.nilp, i64 typ, .nils] (.tup [i64 0, i64 8]) := by
  refine walk_of mo Try.func8 tr8 (rs := [.tmp 6, .tmp 7]) (by rfl) (by rfl) ?_
  unfold c8
  simp [retR_v]
theorem field_nil : Pure Try.prog 24 [.nilp, i64 0, i64 0] .nilp := by
  refine walk_of mo Try.func24 tr24 (rs := [.tmp 6]) (by rfl) (by rfl) ?_
  unfold c24
  simp
  refine call_t (ts := [.nilp]) _ len_nil (by simp) ?_
  simp [retR_v]
theorem sget_nil : Pure Try.prog 12 [.nilp, i64 0, i64 0] (.tup [.agg [i64 0, i64 0], i64 3]) := by
  refine walk_of mo Try.func12 tr12 (rs := [.cell 6 true 2, .tmp 7]) (by rfl) (by rfl) ?_
  unfold c12
  simp
  refine call_t (ts := [.nilp, i64 0, i64 0]) _ field_nil (by simp) ?_
  simp [retR_v]
theorem sset_nil (v : List T) (hv : v.length = 2) : Pure Try.prog 11 [.nilp, i64 0, i64 0, .agg v] (i64 3) := by
  refine walk_of mo Try.func11 tr11 (rs := [.tmp 8]) (by rfl) (by rfl) ?_
  unfold c11
  simp [hv]
  refine call_t (ts := [.nilp, i64 0, i64 0]) _ field_nil (by simp) ?_
  simp [retR_v]
theorem all_nil : Pure Try.prog 10 [.nilp] .nils := by
  refine walk_of mo Try.func10 tr10 (rs := [.tmp 2]) (by rfl) (by rfl) ?_
  unfold c10
  simp
  refine call_t (ts := [.nilp]) _ len_nil (by simp) ?_
  simp
  refine loop_up 0 (fun i => ⟨[(3, .t .nils), (6, .t (i64 0)), (7, .t (i64 i))], []⟩) (fun _ => True) same ?_ trivial ?_
  · simp
  · intro i hi _
    have : i = 0 := by omega
    subst this
    simp [retR_v]
theorem fork_nil : Pure Try.prog 20 [.nilp] .nilp := by
  refine walk_of mo Try.func20 tr20 (rs := [.tmp 2]) (by rfl) (by rfl) ?_
  unfold c20
  simp [retR_v]
theorem zero_star : Pure Try.prog 14 [.str ⟨#[42, 120]⟩] (.agg [i64 4, i64 0]) := by
  refine walk_of mo Try.func14 tr14 (rs := [.cell 2 true 2]) (by rfl) (by rfl) ?_
  unfold c14
  simp [retR_v]
theorem new_eff (d : Nat) (hd : d < far) : Eff Try.prog 7 [] [] (.ptr d 0 0) [(d, .box [.t .nils, .t .nils, .t .nils])] := by
  refine walk_eff mo Try.func7 tr7 (rs := [.tmp 0]) (by rfl) (by rfl) ?_
  unfold c7
  simp [parV]
  refine (retE_ret (to d 2) rfl (to_far hd) ?_ ?_ ?_ ?_ ?_).1 <;> simp [V.all, V.allL, Ob.all, okN]
def two (a x b y : Nat) : Nat → Nat := fun n => if n = a then x else if n = b then y else n
theorem two_far {a x b y : Nat} (ha : a < far) (hb : b < far) : ∀ n, far ≤ n → two a x b y n = n := fun n hn => by
  rw [two, if_neg (by omega), if_neg (by omega)]
theorem two_a (a x b y : Nat) : two a x b y a = x := by simp [two]
theorem two_b {a x b y : Nat} (h : a ≠ b) : two a x b y b = y := by simp [two, Ne.symm h]
def row (l : List Int) : List (List T) := l.map fun n => [i64 n]
def sNil : Hp := [(far, .box [.t .nils, .t .nils, .t .nils])]
def sRun (k p a b : Nat) (ts fs : List Int) : Hp := [(p, .box [.slc a 1 0 k, .slc b 1 0 k, .t .nils]), (a, .row 3 1 (row ts)), (b, .row 3 1 (row fs))]
theorem make_first (typ : Int) (d1 d2 : Nat) (h1 : d1 < far) (h2 : d2 < far) (hne : d1 ≠ d2) : Eff Try.prog 8 [.ptr far 0 0, .t (i64 typ), .t .nils] sNil (.tup [.t (i64 0), .t (i64 0)]) (sRun 1 far d1 d2 [typ] [0]) := by
  refine walk_eff mo Try.func8 tr8 (rs := [.tmp 6, .tmp 7]) (by rfl) (by rfl) ?_
  unfold c8
  have hw : wr .i64 0 = 0 := wr_id (by omega) (by omega)
  have e3 := two_far (x := 26) (y := 37) h1 h2 far (Nat.le_refl _)
  have f1 : far ≠ d1 := by omega
  have f2 : far ≠ d2 := by omega
  simp [parV, sNil, hw]
  refine (retE_ret (two d1 26 d2 37) rfl (two_far h1 h2) ?_ ?_ ?_ ?_ ?_).1 <;> simp [V.all, V.allL, Ob.all, okN, sRun, two_a, two_b hne, e3, row]
theorem make_next (typ : Int) (ts fs : List Int) (k : Nat) (hts : ts.length = k) (hfs : fs.length = k) (hk : k < 100000) (d1 d2 : Nat) (h1 : d1 < far) (h2 : d2 < far) (hne : d1 ≠ d2) :
    Eff Try.prog 8 [.ptr far 0 0, .t (i64 typ), .t .nils] (sRun k far (far + 1) (far + 2) ts fs) (.tup [.t (i64 k), .t (i64 0)]) (sRun (k + 1) far d1 d2 (ts ++ [typ]) (fs ++ [0])) := by
  refine walk_eff mo Try.func8 tr8 (rs := [.tmp 6, .tmp 7]) (by rfl) (by rfl) ?_
  unfold c8
  have hw : wr .i64 (k : Int) = k := wr_id (by omega) (by omega)
  have e3 := two_far (x := 26) (y := 37) h1 h2 far (Nat.le_refl _)
  have hk2 : ¬ ((k : Int) = 100000) := by omega
  have hk3 : (k + 1) * 8 ≤ 140737488355328 := by omega
  have t1 : List.take k (List.map (fun n => [T.int IntKind.i64 n]) ts) = List.map (fun n => [T.int IntKind.i64 n]) ts := List.take_of_length_le (by simp; omega)
  have t2 : List.take k (List.map (fun n => [T.int IntKind.i64 n]) fs) = List.map (fun n => [T.int IntKind.i64 n]) fs := List.take_of_length_le (by simp; omega)
  simp [parV, sRun, hts, hfs, row, hk2, hk3, hw]
  refine (retE_ret (two d1 26 d2 37) rfl (two_far h1 h2) ?_ ?_ ?_ ?_ ?_).1 <;> simp [V.all, V.allL, Ob.all, okN, sRun, two_a, two_b hne, e3, row, hts, hfs, t1, t2]
theorem make_full (typ : Int) (ts fs : List Int) (k : Nat) (hk : (k : Int) = 100000) (hts : ts.length = k) :
    Eff Try.prog 8 [.ptr far 0 0, .t (i64 typ), .t .nils] (sRun k far (far + 1) (far + 2) ts fs) (.tup [.t (i64 0), .t (i64 8)]) (sRun k far (far + 1) (far + 2) ts fs) := by
  refine walk_eff mo Try.func8 tr8 (rs := [.tmp 6, .tmp 7]) (by rfl) (by rfl) ?_
  unfold c8
  simp [parV, sRun, row, hk]
  refine (retE_ret same rfl (fun _ _ => rfl) ?_ ?_ ?_ ?_ ?_).1 <;> simp [V.all, V.allL, Ob.all, okN, sRun, row, hts]
theorem len_eff (k : Nat) (ts fs : List Int) (hts : ts.length = k) :
    Eff Try.prog 21 [.ptr far 0 0] (sRun k far (far + 1) (far + 2) ts fs) (.t (i64 k)) (sRun k far (far + 1) (far + 2) ts fs) := by
  refine walk_eff mo Try.func21 tr21 (rs := [.tmp 2]) (by rfl) (by rfl) ?_
  unfold c21
  simp [parV, sRun, row, hts]
  refine (retE_ret same rfl (fun _ _ => rfl) ?_ ?_ ?_ ?_ ?_).1 <;> simp [V.all, V.allL, Ob.all, okN, sRun, row, hts]
def four (a x b y c z d w : Nat) : Nat → Nat := fun n => if n = a then x else if n = b then y else if n = c then z else if n = d then w else n
def three (a x b y c z : Nat) : Nat → Nat := fun n => if n = a then x else if n = b then y else if n = c then z else n
theorem three_far {a x b y c z : Nat} (ha : a < far) (hb : b < far) (hc : c < far) : ∀ n, far ≤ n → three a x b y c z n = n := fun n hn => by
  rw [three, if_neg (by omega), if_neg (by omega), if_neg (by omega)]
def sOne (p a b c : Nat) : Hp := [(p, .box [.slc a 1 0 1, .slc b 1 0 1, .slc c 2 0 1]), (a, .row 3 1 [[i64 0]]), (b, .row 3 1 [[i64 0]]), (c, .row 23 2 [[i64 1, i64 5]])]
theorem make_one (d1 d2 d3 : Nat) (h1 : d1 < far) (h2 : d2 < far) (h3 : d3 < far) (n12 : d1 ≠ d2) (n13 : d1 ≠ d3) (n23 : d2 ≠ d3) :
    Eff Try.prog 8 [.ptr far 0 0, .t (i64 0), .slc (far + 1) 2 0 1] (sNil ++ [(far + 1, .row 23 2 [[i64 1, i64 5]])]) (.tup [.t (i64 0), .t (i64 0)]) (sOne far d1 d2 d3) := by
  refine walk_eff mo Try.func8 tr8 (rs := [.tmp 6, .tmp 7]) (by rfl) (by rfl) ?_
  unfold c8
  have hw : wr .i64 0 = 0 := wr_id (by omega) (by omega)
  have e3 := three_far (x := 26) (y := 37) (z := 48) h1 h2 h3 far (Nat.le_refl _)
  have q1 : three d1 26 d2 37 d3 48 d1 = 26 := by simp [three]
  have q2 : three d1 26 d2 37 d3 48 d2 = 37 := by simp [three, Ne.symm n12]
  have q3 : three d1 26 d2 37 d3 48 d3 = 48 := by simp [three, Ne.symm n13, Ne.symm n23]
  simp [parV, sNil, hw]
  refine (retE_ret (three d1 26 d2 37 d3 48) rfl (three_far h1 h2 h3) ?_ ?_ ?_ ?_ ?_).1 <;> simp [V.all, V.allL, Ob.all, okN, sOne, q1, q2, q3, e3]
theorem len_one : Eff Try.prog 21 [.ptr far 0 0] (sOne far (far + 1) (far + 2) (far + 3)) (.t (i64 1)) (sOne far (far + 1) (far + 2) (far + 3)) := by
  refine walk_eff mo Try.func21 tr21 (rs := [.tmp 2]) (by rfl) (by rfl) ?_
  unfold c21
  simp [parV, sOne]
  refine (retE_ret same rfl (fun _ _ => rfl) ?_ ?_ ?_ ?_ ?_).1 <;> simp [V.all, V.allL, Ob.all, okN, sOne]
theorem fields_one : Eff Try.prog 23 [.ptr far 0 0, .t (i64 0)] (sOne far (far + 1) (far + 2) (far + 3)) (.slc (far + 3) 2 0 1) (sOne far (far + 1) (far + 2) (far + 3)) := by
  refine walk_eff mo Try.func23 tr23 (rs := [.tmp 4]) (by rfl) (by rfl) ?_
  unfold c23
  have hw : wr .i64 1 = 1 := wr_id (by omega) (by omega)
  simp [parV, sOne, hw]
  refine (retE_ret same rfl (fun _ _ => rfl) ?_ ?_ ?_ ?_ ?_).1 <;> simp [V.all, V.allL, Ob.all, okN, sOne]
theorem field_one : Eff Try.prog 24 [.ptr far 0 0, .t (i64 0), .t (i64 0)] (sOne far (far + 1) (far + 2) (far + 3)) (.ptr (far + 3) 0 0) (sOne far (far + 1) (far + 2) (far + 3)) := by
  refine walk_eff mo Try.func24 tr24 (rs := [.tmp 6]) (by rfl) (by rfl) ?_
  unfold c24
  simp [parV, sOne]
  refine eff_intro [] same len_one (by simp) rfl (by simp) (by simp) (by simp) ?_ ?_ ?_ ?_ ?_
  · simp [sOne]
  · simp [sOne]
  · simp [sOne]
  · simp [sOne, far]
  · simp [sOne, renHp, dropL]
    refine eff_intro [] same fields_one (by simp) rfl (by simp) (by simp) (by simp) ?_ ?_ ?_ ?_ ?_
    · simp [sOne]
    · simp [sOne]
    · simp [sOne]
    · simp [sOne, far]
    · simp [sOne, renHp, dropL]
      refine (retE_ret same rfl (fun _ _ => rfl) ?_ ?_ ?_ ?_ ?_).1 <;> simp [V.all, V.allL, Ob.all, okN, sOne]
theorem get_one : Eff Try.prog 12 [.ptr far 0 0, .t (i64 0), .t (i64 0)] (sOne far (far + 1) (far + 2) (far + 3)) (.tup [.t (.agg [i64 1, i64 5]), .t (i64 0)]) (sOne far (far + 1) (far + 2) (far + 3)) := by
  refine walk_eff mo Try.func12 tr12 (rs := [.cell 6 true 2, .tmp 7]) (by rfl) (by rfl) ?_
  unfold c12
  simp [parV, sOne]
  refine eff_intro [] same field_one (by simp) rfl (by simp) (by simp) (by simp) ?_ ?_ ?_ ?_ ?_
  · simp [sOne]
  · simp [sOne]
  · simp [sOne]
  · simp [sOne, far]
  · simp [sOne, renHp, dropL]
    refine (retE_ret same rfl (fun _ _ => rfl) ?_ ?_ ?_ ?_ ?_).1 <;> simp [V.all, V.allL, Ob.all, okN, sOne]
theorem works_pure : Pure Try.prog 6 [] (.bool true) := by
  refine walk_of mo Try.func6 tr6 (rs := [.tmp 0]) (by rfl) (by rfl) ?_
  unfold c6
  simp
  refine eff_intro [500] same (new_eff 500 (by decide)) (by simp) rfl (by decide) (by simp) (by simp) ?_ ?_ ?_ ?_ ?_
  · simp
  · simp
  · simp
  · simp
  · simp [renHp, dropL]
    refine eff_intro [501, 502, 503] (two far 500 (far + 1) 10) (make_one 501 502 503 (by decide) (by decide) (by decide) (by decide) (by decide) (by decide)) (by simp) rfl (by decide) ?_ ?_ ?_ ?_ ?_ ?_ ?_
    · intro n hn; rw [two, if_neg (by omega), if_neg (by omega)]
    · simp [two]
    · simp [sNil, two]
    · simp [sNil, two]
    · simp [sOne, two, far]
    · simp [sOne, far]
    · simp [sOne, sNil, renHp, dropL, two, far]
      refine eff_intro [] (four far 500 (far + 1) 501 (far + 2) 502 (far + 3) 503) get_one (by simp) rfl (by simp) ?_ ?_ ?_ ?_ ?_ ?_ ?_
      · intro n hn; rw [four, if_neg (by omega), if_neg (by omega), if_neg (by omega), if_neg (by omega)]
      · simp [four]
      · simp [sOne, four, far]
      · simp [sOne, four, far]
      · simp [sOne, four, far]
      · simp [sOne, far]
      · simp [sOne, renHp, dropL, four, far, eqCells]
        refine call_t (ts := [.str ⟨#[42, 120]⟩]) _ zero_star (by simp) ?_
        simp [retR_v]

end Go.Eng
