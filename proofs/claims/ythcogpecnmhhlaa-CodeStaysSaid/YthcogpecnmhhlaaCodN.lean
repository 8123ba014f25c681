/- What the program's functions 52,20 compute (numbers of this seat): contracts, walked by the engine. -/
import Derived.Test.YthcogpecnmhhlaaEngU
import Derived.Test.YthcogpecnmhhlaaCodM
import Derived.Test.YthcogpecnmhhlaaProg
namespace Go.Eng
open Go Go.Proofs
set_option maxRecDepth 100000
set_option linter.all false
def c20 : Cd := (.seq (.reg [o1 1 (.box true 4 (.t 0)), o1 2 (.mv (.c (.nils)))] false) (.seq (.reg [o1 8 (.fa 3 (.t 1)), o1 9 (.ld false 1 (.t 8)), o1 10 (.len (.t 9)), o1 11 (.mk 3 1 8 [.int .i64 0] (.t 10) (.t 10)), o1 3 (.new [.nils]), o0 (.st 1 (.t 3) (.t 11))] false) (.seq (.reg [o1 4 (.new [.int .i64 0]), o0 (.st 1 (.t 4) (cI 0))] false) (.seq (.reg [o1 5 (.new [.nilf])] false) (.seq (.reg [o1 12 (.mkf 52 [(.t 4), (.t 3), (.t 1), (.t 5)]), o0 (.st 1 (.t 5) (.t 12))] false) (.seq (.seq (.reg [o1 13 (.fa 2 (.t 1)), o1 14 (.ld false 1 (.t 13)), o1 15 (.len (.t 14)), o1 16 (.mv (cI 0))] false) (.blk 0 (.loop (.seq (.reg [o1 17 (.bin .lss (.t 16) (.t 15))] false) (.seq (.cond (.t 17) .skip (.exit 0)) (.seq (.blk 1 (.seq (.reg [o1 18 (.ia 4 (.t 14) (.t 16)), o1 19 (.ld true 4 (.t 18)), o1 7 (.new [.str ByteArray.empty, .nils, .str ByteArray.empty, .int .i64 0]), o0 (.st 4 (.t 7) (.t 19))] false) (.reg [o1 20 (.ld false 1 (.t 5)), o1 21 (.fa 3 (.t 7)), o1 22 (.ld false 1 (.t 21)), o1 23 (.callv (.t 20) [(.t 22)])] false))) (.reg [o1 24 (.bin .add (.t 16) (cI 1)), o1 16 (.mv (.t 24))] false))))))) (.seq (.reg [o1 25 (.ld false 1 (.t 3)), o1 2 (.mv (.t 25))] false) .ret)))))))
theorem tr20 : tr Try.prog (Try.f20.body.getD .skip) = some c20 := by kernel_rfl
def c52 : Cd := (.seq (.reg [o1 8 (.ld false 1 (.t 2)), o1 9 (.mv (.t 0)), o1 10 (.ld false 1 (.t 1)), o1 11 (.ia 1 (.t 8) (.t 9)), o0 (.st 1 (.t 11) (.t 10))] false) (.seq (.reg [o1 12 (.ld false 1 (.t 1)), o1 13 (.bin .add (.t 12) (cI 1)), o0 (.st 1 (.t 1) (.t 13))] false) (.seq (.reg [o1 14 (.fa 3 (.t 3)), o1 15 (.ld false 1 (.t 14)), o1 16 (.mv (.t 0)), o1 17 (.ia 8 (.t 15) (.t 16)), o1 18 (.ld true 8 (.t 17)), o1 19 (.call 47 [(.t 18)]), o1 20 (.len (.t 19)), o1 21 (.mv (cI 0))] false) (.blk 0 (.loop (.seq (.reg [o1 22 (.bin .lss (.t 21) (.t 20))] false) (.seq (.cond (.t 22) .skip (.exit 0)) (.seq (.blk 1 (.seq (.reg [o1 23 (.ia 1 (.t 19) (.t 21)), o1 24 (.ld false 1 (.t 23)), o1 7 (.mv (.t 24))] false) (.reg [o1 25 (.ld false 1 (.t 4)), o1 26 (.mv (.t 7)), o1 27 (.callv (.t 25) [(.t 26)])] false))) (.reg [o1 28 (.bin .add (.t 21) (cI 1)), o1 21 (.mv (.t 28))] false)))))))))
theorem tr52 : tr Try.prog (Try.f52.body.getD .skip) = some c52 := by kernel_rfl
set_option maxHeartbeats 2000000
def Cod.pre (c : Cod) : Nat → Int → List Int
  | 0, _ => []
  | f + 1, i => i :: (match c.L[i.toNat]? with | .some n => n.kids.flatMap (c.pre f) | .none => [])
def puts (d : List Int) (n : Nat) : List Int → List Int
  | [] => d
  | i :: r => puts (d.set i.toNat n) (n + 1) r
theorem puts_len : ∀ (l d : List Int) (n : Nat), (puts d n l).length = d.length
  | [], _, _ => rfl
  | i :: r, d, n => by rw [puts, puts_len]; simp
theorem puts_append : ∀ (a b d : List Int) (n : Nat), puts d n (a ++ b) = puts (puts d n a) (n + a.length) b
  | [], _, _, _ => rfl
  | i :: r, b, d, n => by
    rw [List.cons_append, puts, puts_append r, puts, List.length_cons]
    congr 1; omega
abbrev oW : V := .fnv 52 [.ptr far 0 0, .ptr (far + 1) 0 0, .ptr (far + 3) 0 0, .ptr (far + 4) 0 0]
def oHp (c : Cod) (n : Nat) (d : List Int) : Hp := [(far, .box [.t (i64 n)]), (far + 1, .box [.slc (far + 2) 1 0 c.L.length]), (far + 2, .row 3 1 (row d)), (far + 3, .box (c.enc.map .t)), (far + 4, .box [oW])]
def Cod.forest (c : Cod) (f : Nat) (l : List Int) : List Int := l.flatMap (c.pre f)
theorem forest_append (c : Cod) (f : Nat) (a b : List Int) : c.forest f (a ++ b) = c.forest f a ++ c.forest f b := by simp [Cod.forest]
theorem forest_next (c : Cod) (f : Nat) (K : List Int) (j : Nat) (h : j < K.length) : c.forest f (K.take (j + 1)) = c.forest f (K.take j) ++ c.pre f K[j] := by
  rw [List.take_add_one, List.getElem?_eq_getElem h, Option.toList_some, forest_append]; simp [Cod.forest]
theorem forest_le (c : Cod) (f : Nat) (K : List Int) (j : Nat) : (c.forest f (K.take j)).length ≤ (c.forest f K).length := by
  conv => rhs; rw [← List.take_append_drop j K, forest_append, List.length_append]
  omega
theorem forest_nil (c : Cod) (f : Nat) : c.forest f [] = [] := rfl
attribute [local simp] cut spl one fillT renL_same forest_nil
theorem order1_eff (c : Cod) (ok : c.Ok) (hkr : ∀ j (h : j < c.L.length), ∀ k ∈ c.L[j].kids, (j : Int) < k ∧ k < c.L.length) : ∀ (f i : Nat) (n : Nat) (d : List Int), c.L.length ≤ i + f → i < c.L.length → d.length = c.L.length → n + (c.pre f i).length ≤ 1000000000 →
    Eff Try.prog 52 [.t (i64 i), .ptr far 0 0, .ptr (far + 1) 0 0, .ptr (far + 3) 0 0, .ptr (far + 4) 0 0] (oHp c n d) (.tup []) (oHp c (n + (c.pre f i).length) (puts d n (c.pre f i))) := by
  intro f
  induction f with
  | zero => intro i n d h1 h2; omega
  | succ f ih =>
    intro i n d h1 h2 hd hn
    refine walk_eff mo Try.func52 tr52 (rs := []) (by rfl) (by rfl) ?_
    unfold c52
    have hpre : c.pre (f + 1) i = (i : Int) :: c.forest f c.L[i].kids := by
      rw [Cod.pre, Int.toNat_natCast, List.getElem?_eq_getElem h2]; rfl
    rw [hpre] at hn ⊢
    obtain ⟨ho1, ho2, _⟩ := ok.n _ (List.getElem_mem h2)
    have hk := hkr i h2
    have hkl := kids_len c.L[i]
    simp [parV, oHp, Cod.enc, row, h2, hd, Nod.enc]
    refine call_t (ts := [.agg c.L[i].enc]) _ (kids_pure c.L[i] ho1 ho2) (by simp) ?_
    generalize hK : c.L[i].kids = K at *
    have hKl : K.length ≤ 2000000003 := by omega
    have hw : wr .i64 ((n : Int) + 1) = (n : Int) + 1 := wr_id (by omega) (by omega)
    simp [ints]
    refine loop_up K.length (fun j => ⟨[(1, .ptr far 0 0), (2, .ptr (far + 1) 0 0), (3, .ptr (far + 3) 0 0), (4, .ptr (far + 4) 0 0), (19, .t (ints K)), (20, .t (i64 K.length)), (21, .t (i64 j))], oHp c (n + 1 + (c.forest f (K.take j)).length) (puts (d.set i n) (n + 1) (c.forest f (K.take j)))⟩) (fun _ => True) same ?_ trivial ?_
    · simp [row, Cod.enc, ints, oHp, puts, hw, List.map_set]
    · intro j hj _
      by_cases hjl : j < K.length
      · obtain ⟨hk1, hk2⟩ := hk K[j] (List.getElem_mem hjl)
        obtain ⟨m, hm⟩ : ∃ m : Nat, K[j] = m := ⟨K[j].toNat, by omega⟩
        have hml : m < c.L.length := by omega
        have hnx := forest_next c f K j hjl
        have hle := forest_le c f K (j + 1)
        rw [hm] at hnx
        rw [hnx, List.length_append] at hle
        rw [List.length_cons] at hn
        generalize hA : c.forest f (K.take j) = A at *
        simp [ints, oHp, hjl, hm]
        refine eff_intro [] same (ih m (n + 1 + A.length) (puts (d.set i n) (n + 1) A) (by omega) hml (by rw [puts_len]; simp [hd]) (by omega)) (by simp) rfl (by simp) (by simp) (by simp) ?_ ?_ ?_ ?_ ?_
        · simp [oHp]
        · simp [oHp]
        · simp [oHp]
        · simp [oHp, far]
        · simp [oHp, renHp, dropL]
          rw [wr_id (n := (j : Int) + 1) (by omega) (by omega)]
          refine up_next same hjl trivial ?_
          have e1 : (n : Int) + 1 + ((A.length : Int) + ((c.pre f m).length : Int)) = n + 1 + A.length + (c.pre f m).length := by omega
          simp [hnx, puts_append, row, ints, oHp, e1]
      · have : j = K.length := by omega
        subst this
        rw [List.take_length]
        simp [ints]
        refine (retE_ret same rfl (fun _ _ => rfl) ?_ ?_ ?_ ?_ ?_).2 <;> simp [V.all, V.allL, Ob.all, okN, oHp, leC, row, puts, Cod.enc]
        rw [show (n : Int) + 1 + (c.forest f K).length = n + ((c.forest f K).length + 1) by omega]; simp
def oQ (n : Nat) : Nat := if n = far then 4 else if n = far + 1 then 3 else if n = far + 2 then 11 else if n = far + 3 then 1 else if n = far + 4 then 5 else n
def Cod.order (c : Cod) : List Int := puts (List.replicate c.L.length 0) 0 (c.forest c.L.length c.bodies)
theorem order_pure (c : Cod) (ok : c.Ok) (hkr : ∀ j (h : j < c.L.length), ∀ k ∈ c.L[j].kids, (j : Int) < k ∧ k < c.L.length) (hb : ∀ b ∈ c.bodies, 0 ≤ b ∧ b < c.L.length) (hf : c.Funcs.length ≤ 1000000000) (hl : (c.forest c.L.length c.bodies).length ≤ 1000000000) : Pure Try.prog 20 [.agg c.enc] (ints c.order) := by
  refine walk_of mo Try.func20 tr20 (rs := [.tmp 2]) (by rfl) (by rfl) ?_
  unfold c20 Cod.order
  simp [Cod.enc]
  refine req_intro (by have := ok.l; omega) ?_
  simp
  refine loop_up c.Funcs.length (fun i => ⟨[(1, .ptr 1 0 0), (3, .ptr 3 0 0), (4, .ptr 4 0 0), (5, .ptr 5 0 0), (14, .t (.lst 4 (c.Funcs.map Fun.enc))), (15, .t (i64 c.Funcs.length)), (16, .t (i64 i))], [(4, .box [.t (i64 (c.forest c.L.length (c.bodies.take i)).length)]), (3, .box [.slc 11 1 0 c.L.length]), (11, .row 3 1 (row (puts (List.replicate c.L.length 0) 0 (c.forest c.L.length (c.bodies.take i))))), (1, .box (c.enc.map .t)), (5, .box [.fnv 52 [.ptr 4 0 0, .ptr 3 0 0, .ptr 1 0 0, .ptr 5 0 0]])]⟩) (fun _ => True) same ?_ trivial ?_
  · simp [row, Cod.enc, puts]
  · intro i hi _
    by_cases hil : i < c.Funcs.length
    · have hbl : i < c.bodies.length := by simpa [Cod.bodies] using hil
      have hbe : c.bodies[i] = c.Funcs[i].Body := by simp [Cod.bodies]
      obtain ⟨hk1, hk2⟩ := hb c.bodies[i] (List.getElem_mem hbl)
      have hnx := forest_next c c.L.length c.bodies i hbl
      have hle := forest_le c c.L.length c.bodies (i + 1)
      rw [hbe] at hk1 hk2 hnx
      obtain ⟨m, hm⟩ : ∃ m : Nat, c.Funcs[i].Body = m := ⟨c.Funcs[i].Body.toNat, by omega⟩
      rw [hm] at hnx
      rw [hnx, List.length_append] at hle
      generalize hA : c.forest c.L.length (c.bodies.take i) = A at *
      simp [hil, Fun.enc, hm]
      refine eff_intro [] oQ (order1_eff c ok hkr c.L.length m A.length (puts (List.replicate c.L.length 0) 0 A) (by omega) (by omega) (by rw [puts_len]; simp) (by omega)) (by simp) rfl (by simp) ?_ ?_ ?_ ?_ ?_ ?_ ?_
      · intro n hn; have hn' : n < 1000 := hn; unfold oQ; rw [if_neg (by unfold far; omega), if_neg (by unfold far; omega), if_neg (by unfold far; omega), if_neg (by unfold far; omega), if_neg (by unfold far; omega)]
      · simp [oQ]
      · simp [oHp, oQ]
      · simp [oHp, oQ]
      · simp [oHp, oQ]
      · simp [oHp, far]
      · simp [oHp, renHp, dropL, oQ]
        rw [wr_id (n := (i : Int) + 1) (by omega) (by omega)]
        refine up_next same hil trivial ?_
        simp [hnx, puts_append]
    · have : i = c.Funcs.length := by omega
      subst this
      rw [show c.bodies.take c.Funcs.length = c.bodies from List.take_of_length_le (by simp [Cod.bodies])]
      simp [retR_v, puts_len, row, ints, List.take_of_length_le]

end Go.Eng
