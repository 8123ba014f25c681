/- What the program's functions 19,51 compute (numbers of this seat): contracts, walked by the engine. -/
import Derived.Test.YthcogpecnmhhlaaEngU
import Derived.Test.YthcogpecnmhhlaaCodL
import Derived.Test.YthcogpecnmhhlaaProg
namespace Go.Eng
open Go Go.Proofs
set_option maxRecDepth 100000
set_option linter.all false
def c19 : Cd := (.seq (.reg [o1 1 (.box true 4 (.t 0)), o1 2 (.mv (cI 0))] false) (.seq (.seq (.reg [o1 15 (.ld true 4 (.t 1)), o1 16 (.call 45 [(.t 15)]), o1 17 (.not (.t 16))] false) (.cond (.t 17) (.seq (.reg [o1 2 (.mv (cI 8))] false) .ret) .skip)) (.seq (.reg [o1 18 (.ld true 4 (.t 1)), o1 19 (.bld [.str ByteArray.empty, .nils, .nils, .nils] [(0, 4, (.t 18))]), o1 3 (.new [.str ByteArray.empty, .nils, .nils, .nils]), o0 (.st 4 (.t 3) (.t 19))] false) (.seq (.reg [oa 20 [] (.fa 3 (.t 1)), oa 21 [0] (.ld false 1 (.t 20)), oa 22 [1] (.len (.t 21)), oa 23 [2, 2] (.mk 3 1 8 [.int .i64 0] (.t 22) (.t 22)), oa 24 [] (.fa 3 (.t 1)), oa 25 [4] (.ld false 1 (.t 24)), oa 26 [5] (.len (.t 25)), oa 27 [6, 6] (.mk 3 1 8 [.int .i64 0] (.t 26) (.t 26)), oa 4 [3, 0, 1, 2, 3] (.mv (.t 23)), oa 5 [7, 8, 0, 1, 2, 3, 4, 5, 6, 7, 8] (.mv (.t 27))] true) (.seq (.seq (.reg [o1 28 (.fa 3 (.t 1)), o1 29 (.ld false 1 (.t 28)), o1 30 (.len (.t 29)), o1 31 (.mv (cI 0))] false) (.blk 0 (.loop (.seq (.reg [o1 32 (.bin .lss (.t 31) (.t 30))] false) (.seq (.cond (.t 32) .skip (.exit 0)) (.seq (.blk 1 (.seq (.reg [o1 33 (.mv (.t 31)), o1 6 (.mv (.t 33))] false) (.seq (.seq (.reg [o1 34 (.ld true 4 (.t 3)), o1 35 (.mv (.t 6)), o1 36 (.call 46 [(.t 34), (.t 35)]), o1 37 (.not (.t 36))] false) (.cond (.t 37) (.seq (.reg [o1 2 (.mv (cI 4))] false) .ret) .skip)) (.seq (.reg [o1 38 (.fa 3 (.t 1)), o1 39 (.ld false 1 (.t 38)), o1 40 (.mv (.t 6)), o1 41 (.ia 8 (.t 39) (.t 40)), o1 42 (.ld true 8 (.t 41)), o1 43 (.call 47 [(.t 42)]), o1 44 (.len (.t 43)), o1 45 (.mv (cI 0))] false) (.blk 2 (.loop (.seq (.reg [o1 46 (.bin .lss (.t 45) (.t 44))] false) (.seq (.cond (.t 46) .skip (.exit 2)) (.seq (.blk 3 (.seq (.reg [o1 47 (.ia 1 (.t 43) (.t 45)), o1 48 (.ld false 1 (.t 47)), o1 8 (.mv (.t 48))] false) (.reg [o1 49 (.mv (.t 4)), o1 50 (.mv (.t 8)), o1 51 (.ia 1 (.t 49) (.t 50)), o1 52 (.ld false 1 (.t 51)), o1 53 (.bin .add (.t 52) (cI 1)), o1 54 (.ia 1 (.t 49) (.t 50)), o0 (.st 1 (.t 54) (.t 53))] false))) (.reg [o1 55 (.bin .add (.t 45) (cI 1)), o1 45 (.mv (.t 55))] false)))))))))) (.reg [o1 56 (.bin .add (.t 31) (cI 1)), o1 31 (.mv (.t 56))] false))))))) (.seq (.seq (.reg [o1 57 (.fa 2 (.t 1)), o1 58 (.ld false 1 (.t 57)), o1 59 (.len (.t 58)), o1 60 (.mv (cI 0))] false) (.blk 4 (.loop (.seq (.reg [o1 61 (.bin .lss (.t 60) (.t 59))] false) (.seq (.cond (.t 61) .skip (.exit 4)) (.seq (.blk 5 (.seq (.reg [o1 62 (.ia 4 (.t 58) (.t 60)), o1 63 (.ld true 4 (.t 62)), o1 10 (.new [.str ByteArray.empty, .nils, .str ByteArray.empty, .int .i64 0]), o0 (.st 4 (.t 10) (.t 63))] false) (.seq (.seq (.reg [o1 64 (.ld true 4 (.t 3)), o1 65 (.fa 3 (.t 10)), o1 66 (.ld false 1 (.t 65)), o1 67 (.call 48 [(.t 64), (cI (-1)), (.t 66), (.c (.fn 49 []))]), o1 68 (.not (.t 67))] false) (.cond (.t 68) (.seq (.reg [o1 2 (.mv (cI 4))] false) .ret) .skip)) (.seq (.reg [o1 69 (.mv (.t 4)), o1 70 (.fa 3 (.t 10)), o1 71 (.ld false 1 (.t 70)), o1 72 (.ia 1 (.t 69) (.t 71)), o1 73 (.ld false 1 (.t 72)), o1 74 (.bin .add (.t 73) (cI 1)), o1 75 (.ia 1 (.t 69) (.t 71)), o0 (.st 1 (.t 75) (.t 74))] false) (.reg [o1 76 (.mv (.t 5)), o1 77 (.fa 3 (.t 10)), o1 78 (.ld false 1 (.t 77)), o1 79 (.ia 1 (.t 76) (.t 78)), o0 (.st 1 (.t 79) (cI 1))] false))))) (.reg [o1 80 (.bin .add (.t 60) (cI 1)), o1 60 (.mv (.t 80))] false))))))) (.seq (.seq (.reg [o1 81 (.mv (.t 4)), o1 82 (.call 50 [(.t 81), (.c (.fn 51 []))])] false) (.cond (.t 82) (.seq (.reg [o1 2 (.mv (cI 4))] false) .ret) .skip)) (.seq (.seq (.reg [o1 83 (.fa 3 (.t 1)), o1 84 (.ld false 1 (.t 83)), o1 85 (.len (.t 84)), o1 86 (.mv (cI 0))] false) (.blk 6 (.loop (.seq (.reg [o1 87 (.bin .lss (.t 86) (.t 85))] false) (.seq (.cond (.t 87) .skip (.exit 6)) (.seq (.blk 7 (.seq (.reg [o1 88 (.mv (.t 86)), o1 89 (.ia 8 (.t 84) (.t 86)), o1 90 (.ld true 8 (.t 89)), o1 12 (.new [.int .i64 0, .int .i64 0, .str ByteArray.empty, .int .i64 0, .int .i64 0, .int .i64 0, .nils, .nils]), o1 11 (.mv (.t 88)), o0 (.st 8 (.t 12) (.t 90))] false) (.seq (.seq (.reg [o1 91 (.ld true 8 (.t 12)), o1 92 (.call 47 [(.t 91)]), o1 93 (.len (.t 92)), o1 94 (.mv (cI 0))] false) (.blk 8 (.loop (.seq (.reg [o1 95 (.bin .lss (.t 94) (.t 93))] false) (.seq (.cond (.t 95) .skip (.exit 8)) (.seq (.blk 9 (.seq (.reg [o1 96 (.ia 1 (.t 92) (.t 94)), o1 97 (.ld false 1 (.t 96)), o1 14 (.mv (.t 97))] false) (.reg [o1 98 (.mv (.t 5)), o1 99 (.mv (.t 14)), o1 100 (.mv (.t 5)), o1 101 (.mv (.t 11)), o1 102 (.ia 1 (.t 100) (.t 101)), o1 103 (.ld false 1 (.t 102)), o1 104 (.bin .add (.t 103) (cI 1)), o1 105 (.ia 1 (.t 98) (.t 99)), o0 (.st 1 (.t 105) (.t 104))] false))) (.reg [o1 106 (.bin .add (.t 94) (cI 1)), o1 94 (.mv (.t 106))] false))))))) (.seq (.reg [o1 107 (.mv (.t 5)), o1 108 (.mv (.t 11)), o1 109 (.ia 1 (.t 107) (.t 108)), o1 110 (.ld false 1 (.t 109)), o1 111 (.bin .gtr (.t 110) (cI 60))] false) (.cond (.t 111) (.seq (.reg [o1 2 (.mv (cI 6))] false) .ret) .skip))))) (.reg [o1 112 (.bin .add (.t 86) (cI 1)), o1 86 (.mv (.t 112))] false))))))) (.seq (.reg [o1 2 (.mv (cI 0))] false) .ret)))))))))
theorem tr19 : tr Try.prog (Try.f19.body.getD .skip) = some c19 := by kernel_rfl
def c51 : Cd := (.seq (.reg [o1 2 (.mv (.c (.bool false)))] false) (.seq (.reg [o1 3 (.mv (.t 0)), o1 4 (.bin .neq (.t 3) (cI 1)), o1 2 (.mv (.t 4))] false) .ret))
theorem tr51 : tr Try.prog (Try.f51.body.getD .skip) = some c51 := by kernel_rfl
set_option maxHeartbeats 2000000
theorem child_range {c : Cod} {pl i : Int} {p : Int → Bool} (hpl : -1 ≤ pl) (h : c.child pl i p = true) : pl < i ∧ i < c.L.length := by
  unfold Cod.child at h
  rw [Bool.and_eq_true] at h
  have h1 : pl < i := by simpa using h.1
  refine ⟨h1, ?_⟩
  cases e : c.L[i.toNat]? with
  | none => rw [e] at h; exact absurd h.2 (by simp)
  | some n => have := (List.getElem?_eq_some_iff.1 e).1; omega
theorem kr_A {c : Cod} {pl : Int} {n : Nod} (h : c.kindRight pl n = true) : n.A = -1 ∨ ∃ p, c.child pl n.A p = true := by
  unfold Cod.kindRight at h
  repeat' split at h
  all_goals (simp [noneB, Cod.some] at h)
  all_goals first | exact .inl h.1 | exact .inl h.1.1 | exact .inl h.1.1.1 | exact .inr ⟨_, h.1⟩ | exact .inr ⟨_, h.1.1⟩ | exact .inr ⟨_, h.1.1.1⟩ | (rcases h.1 with e | e; exact .inl e; exact .inr ⟨_, e⟩)
theorem kr_B {c : Cod} {pl : Int} {n : Nod} (h : c.kindRight pl n = true) : n.B = -1 ∨ ∃ p, c.child pl n.B p = true := by
  unfold Cod.kindRight at h
  repeat' split at h
  all_goals (simp [noneB, Cod.some] at h)
  all_goals first | exact .inl h.2.1 | exact .inl h.1.2.1 | exact .inr ⟨_, h.1.2⟩ | (rcases h.1.1.2 with e | e; exact .inl e; exact .inr ⟨_, e⟩)
theorem kr_C {c : Cod} {pl : Int} {n : Nod} (h : c.kindRight pl n = true) : n.C = -1 ∨ ∃ p, c.child pl n.C p = true := by
  unfold Cod.kindRight at h
  repeat' split at h
  all_goals (simp [noneB, Cod.some] at h)
  all_goals first | exact .inl h.2.2 | exact .inl h.1.2.2 | exact .inl h.2 | exact .inl h.1.2 | (rcases h.2 with e | e; exact .inl e; exact .inr ⟨_, e⟩)
theorem plain_L {n : Nod} (h : n.plain = true) (h8 : n.Kind ≠ 8) (h11 : n.Kind ≠ 11) : n.L = [] := by
  unfold Nod.plain at h
  rw [Bool.and_eq_true] at h
  replace h := h.2
  repeat' split at h
  all_goals (simp at h)
  all_goals first | exact h.2.1 | exact h.2 | (rename_i e; omega)
theorem plain_Cases {n : Nod} (h : n.plain = true) (h16 : n.Kind ≠ 16) : n.Cases = [] := by
  unfold Nod.plain at h
  rw [Bool.and_eq_true] at h
  replace h := h.2
  repeat' split at h
  all_goals (simp at h)
  all_goals first | exact h.2.2 | exact h.2 | (rename_i e; omega)
theorem kr_L {c : Cod} {pl : Int} {n : Nod} (hp : n.plain = true) (h : c.kindRight pl n = true) : ∀ k ∈ n.L, ∃ p, c.child pl k p = true := by
  intro k hk
  by_cases h8 : n.Kind = 8
  · simp [Cod.kindRight, h8, Cod.all] at h
    exact ⟨_, h.2 k hk⟩
  · by_cases h11 : n.Kind = 11
    · simp [Cod.kindRight, h11, Cod.all] at h
      exact ⟨_, h.2 k hk⟩
    · rw [plain_L hp h8 h11] at hk; cases hk
theorem kr_Cases {c : Cod} {pl : Int} {n : Nod} (hp : n.plain = true) (h : c.kindRight pl n = true) : ∀ k ∈ n.Cases, c.child pl k.Body blockB = true := by
  intro k hk
  by_cases h16 : n.Kind = 16
  · simp [Cod.kindRight, h16, Cod.caseBad] at h
    exact (h.2 k hk).2
  · rw [plain_Cases hp h16] at hk; cases hk
theorem right_kids {c : Cod} {pl : Int} {n : Nod} (hpl : -1 ≤ pl) (h : (n.plain && c.kindRight pl n) = true) : ∀ k ∈ n.kids, pl < k ∧ k < c.L.length := by
  rw [Bool.and_eq_true] at h
  intro k hk
  unfold Nod.kids at hk
  simp only [List.mem_append, List.mem_filter, List.mem_map] at hk
  rcases hk with (⟨hm, h1⟩ | hm) | ⟨x, hx, rfl⟩
  · have h1 : k ≠ -1 := by simpa using h1
    simp only [List.mem_cons, List.not_mem_nil, or_false] at hm
    rcases hm with rfl | rfl | rfl
    · rcases kr_A h.2 with e | ⟨p, e⟩
      · exact absurd e h1
      · exact child_range hpl e
    · rcases kr_B h.2 with e | ⟨p, e⟩
      · exact absurd e h1
      · exact child_range hpl e
    · rcases kr_C h.2 with e | ⟨p, e⟩
      · exact absurd e h1
      · exact child_range hpl e
  · obtain ⟨p, e⟩ := kr_L h.1 h.2 k hm
    exact child_range hpl e
  · exact child_range hpl (kr_Cases h.1 h.2 x hx)
def tally (n : Nat) (l : List Int) : List Int := (List.range n).map fun k : Nat => ((l.count (k : Int) : Nat) : Int)
def Cod.rightB (c : Cod) (i : Nat) : Bool := match c.L[i]? with | .some n => n.plain && c.kindRight i n | .none => true
def Cod.deepStep (c : Cod) (i : Nat) (d : List Int) : List Int := match c.L[i]? with
  | .some n => n.kids.foldl (fun d k => d.set k.toNat (d.getD i 0 + 1)) d
  | .none => d
def Cod.deepAt (c : Cod) (d : List Int) : Nat → List Int
  | 0 => d
  | m + 1 => c.deepStep m (c.deepAt d m)
def Cod.bodies (c : Cod) : List Int := c.Funcs.map (·.Body)
def deep0 (n : Nat) (l : List Int) : List Int := l.foldl (fun d b => d.set b.toNat 1) (List.replicate n 0)
def Cod.tooDeep (c : Cod) : Bool := (List.range c.L.length).any fun j => decide (60 < (c.deepAt (deep0 c.L.length c.bodies) (j + 1)).getD j 0)
def Cod.may (c : Cod) : Int :=
  if c.counted = false then 8
  else if ((List.range c.L.length).all fun i => c.rightB i) = false then 4
  else if (c.Funcs.all fun f => c.child (-1) f.Body blockB) = false then 4
  else if (tally c.L.length (c.L.flatMap Nod.kids ++ c.bodies)).any (fun n => !decide (n = 1)) then 4
  else if c.tooDeep then 6 else 0
theorem tally_len (n : Nat) (l : List Int) : (tally n l).length = n := by simp [tally]
theorem tally_bump {n : Nat} {l : List Int} {k : Nat} (h : k < n) : (tally n l).set k ((l.count (k : Int) : Int) + 1) = tally n (l ++ [(k : Int)]) := by
  refine List.ext_getElem (by simp [tally]) fun i h1 h2 => ?_
  rw [List.getElem_set]
  by_cases e : k = i
  · subst e; simp [tally]
  · have : ¬ (k : Int) = i := by omega
    simp [tally, e, List.count_append, List.count_cons, this]
theorem tally_get {n : Nat} {l : List Int} {k : Nat} (h : k < n) : (tally n l)[k]'(by simpa [tally] using h) = (l.count (k : Int) : Int) := by simp [tally]
theorem tally_nil (n : Nat) : tally n [] = List.replicate n 0 := by
  refine List.ext_getElem (by simp [tally]) fun i h1 h2 => by simp [tally]
theorem may1_pure (k : Int) : Pure Try.prog 51 [i64 k] (.bool (!decide (k = 1))) := by
  refine walk_of mo Try.func51 tr51 (rs := [.tmp 2]) (by rfl) (by rfl) ?_
  unfold c51
  simp
theorem tally_get? (n : Nat) (l : List Int) (k : Nat) (h : k < n) : (tally n l)[k]? = .some (l.count (k : Int) : Int) := by simp [tally, h]
theorem kids_len (n : Nod) : n.kids.length ≤ 3 + n.L.length + n.Cases.length := by
  have := List.length_filter_le (fun x => !decide (x = -1)) [n.A, n.B, n.C]
  simp only [List.length_cons, List.length_nil] at this
  simp only [Nod.kids, List.length_append, List.length_map]; omega
theorem kidsum_len (c : Cod) (ok : c.Ok) (i : Nat) : ((c.L.take i).flatMap Nod.kids).length ≤ (c.L.take i).length * 2000000003 := by
  have : ∀ l : List Nod, (∀ n ∈ l, n ∈ c.L) → (l.flatMap Nod.kids).length ≤ l.length * 2000000003 := by
    intro l hl
    induction l with
    | nil => simp
    | cons n r ih =>
      have h1 := ih (fun m hm => hl m (List.mem_cons_of_mem _ hm))
      have h2 := kids_len n
      obtain ⟨a, b, _⟩ := ok.n n (hl n List.mem_cons_self)
      simp only [List.flatMap_cons, List.length_append, List.length_cons]
      omega
  exact this _ (fun n hn => List.mem_of_mem_take hn)
def deepSet (c : Cod) (i : Nat) (d : List Int) (ks : List Int) : List Int := ks.foldl (fun d k => d.set k.toNat (d.getD i 0 + 1)) d
theorem deepSet_len (c : Cod) (i : Nat) : ∀ (ks d : List Int), (deepSet c i d ks).length = d.length
  | [], _ => rfl
  | k :: r, d => by show (deepSet c i (d.set _ _) r).length = _; rw [deepSet_len]; simp
theorem deepStep_len (c : Cod) (i : Nat) (d : List Int) : (c.deepStep i d).length = d.length := by
  unfold Cod.deepStep; split
  · exact deepSet_len c i _ _
  · rfl
theorem deepAt_len (c : Cod) (d : List Int) : ∀ m, (c.deepAt d m).length = d.length
  | 0 => rfl
  | m + 1 => by rw [Cod.deepAt, deepStep_len, deepAt_len]
theorem deep0_len (n : Nat) (l : List Int) : (deep0 n l).length = n := by
  unfold deep0
  have : ∀ (l d : List Int), (l.foldl (fun d b => d.set b.toNat 1) d).length = d.length := by
    intro l; induction l with
    | nil => simp
    | cons a r ih => intro d; simp [ih]
  rw [this]; simp
theorem deep0_bound (n : Nat) (l : List Int) : ∀ x ∈ deep0 n l, 0 ≤ x ∧ x ≤ 1 := by
  unfold deep0
  have : ∀ (l d : List Int), (∀ x ∈ d, 0 ≤ x ∧ x ≤ 1) → ∀ x ∈ l.foldl (fun d b => d.set b.toNat 1) d, 0 ≤ x ∧ x ≤ 1 := by
    intro l; induction l with
    | nil => simp
    | cons a r ih =>
      intro d hd
      refine ih _ fun x hx => ?_
      rcases List.mem_or_eq_of_mem_set hx with h | h
      · exact hd x h
      · omega
  refine this l _ fun x hx => ?_
  rw [List.mem_replicate] at hx; omega
theorem deepSet_bound (c : Cod) (i : Nat) (b : Int) (hb : 0 ≤ b) : ∀ (ks d : List Int), (∀ x ∈ d, 0 ≤ x ∧ x ≤ b) → (∀ k ∈ ks, (i : Int) < k) → d.getD i 0 < b → (∀ x ∈ deepSet c i d ks, 0 ≤ x ∧ x ≤ b)
  | [], _, h, _, _ => h
  | k :: r, d, h, hk, h1 => by
    show ∀ x ∈ deepSet c i (d.set k.toNat (d.getD i 0 + 1)) r, _
    have h0 : 0 ≤ d.getD i 0 := by
      rw [List.getD_eq_getElem?_getD]
      cases e : d[i]? with
      | none => simp
      | some y => exact (h y (List.mem_of_getElem? e)).1
    have hk0 := hk k List.mem_cons_self
    refine deepSet_bound c i b hb r _ ?_ (fun x hx => hk x (List.mem_cons_of_mem _ hx)) ?_
    · intro x hx
      rcases List.mem_or_eq_of_mem_set hx with h2 | h2
      · exact h x h2
      · omega
    · rw [List.getD_eq_getElem?_getD, List.getElem?_set_ne (by omega), ← List.getD_eq_getElem?_getD]; exact h1
attribute [local simp] cut spl one fillT
theorem may_pure (c : Cod) (ok : c.Ok) : Pure Try.prog 19 [.agg c.enc] (i64 c.may) := by
  refine walk_of mo Try.func19 tr19 (rs := [.tmp 2]) (by rfl) (by rfl) ?_
  unfold c19
  simp [Cod.enc]
  refine call_t (ts := [.agg c.enc]) _ (counted_pure c) (by simp) ?_
  cases hcnt : c.counted with
  | false => simp [show c.may = 8 by simp [Cod.may, hcnt]]
  | true =>
    simp
    have hn20 : c.L.length ≤ 20000 := by simp [Cod.counted] at hcnt; omega
    have hf10 : c.Funcs.length ≤ 1000 := by simp [Cod.counted] at hcnt; omega
    refine reqD_intro (by omega) ?_
    simp
    refine reqD_intro (by omega) ?_
    simp
    refine loop_up c.L.length (fun i => ⟨[(1, .ptr 1 0 0), (3, .ptr 3 0 0), (4, .slc 23 1 0 c.L.length), (5, .slc 27 1 0 c.L.length), (29, .t (.lst 8 (c.L.map Nod.enc))), (30, .t (i64 c.L.length)), (31, .t (i64 i))], [(1, .box (c.enc.map .t)), (3, .box (c.enc.map .t)), (23, .row 3 1 (row (tally c.L.length ((c.L.take i).flatMap Nod.kids)))), (27, .row 3 1 (row (List.replicate c.L.length 0)))]⟩) (fun i => ∀ j, j < i → c.rightB j = true) same ?_ (by simp) ?_
    · simp [row, Cod.enc, tally_nil]
    · intro i hi hR
      by_cases hl : i < c.L.length
      · simp [hl, Cod.enc]
        refine call_t (ts := [.agg c.enc, i64 i]) _ (right_pure c ok i hl) (by simp) ?_
        have hrb : c.rightB i = (c.L[i].plain && c.kindRight i c.L[i]) := by simp [Cod.rightB, hl]
        rw [← hrb]
        cases hr : c.rightB i with
        | false =>
          have : c.may = 4 := by
            have : ((List.range c.L.length).all fun i => c.rightB i) = false := List.all_eq_false.2 ⟨i, by simpa using hl, by simp [hr]⟩
            simp only [Cod.may, hcnt, this]; rfl
          simp [this]
        | true =>
          have hkr := right_kids (c := c) (pl := i) (n := c.L[i]) (by omega) (by rw [← hrb]; exact hr)
          have hks := kidsum_len c ok i
          have hkl := kids_len c.L[i]
          obtain ⟨ho1, ho2, _⟩ := ok.n _ (List.getElem_mem hl)
          simp [hl, Nod.enc]
          refine call_t (ts := [.agg c.L[i].enc]) _ (kids_pure c.L[i] ho1 ho2) (by simp) ?_
          have htk : (c.L.take (i + 1)).flatMap Nod.kids = (c.L.take i).flatMap Nod.kids ++ c.L[i].kids := by
            rw [List.take_add_one, List.getElem?_eq_getElem hl, Option.toList_some, List.flatMap_append]; simp only [List.flatMap_cons, List.flatMap_nil, List.append_nil]
          generalize hK : c.L[i].kids = K at *
          generalize hA : (c.L.take i).flatMap Nod.kids = A at *
          have hil : (c.L.take i).length ≤ 20000 := by simp; omega
          have hAl : A.length ≤ 40000000060000 := by omega
          have hKl : K.length ≤ 2000000003 := by omega
          simp [ints]
          refine loop_up K.length (fun j => ⟨[(1, .ptr 1 0 0), (3, .ptr 3 0 0), (4, .slc 23 1 0 c.L.length), (5, .slc 27 1 0 c.L.length), (29, .t (.lst 8 (c.L.map Nod.enc))), (30, .t (i64 c.L.length)), (31, .t (i64 i)), (43, .t (ints K)), (44, .t (i64 K.length)), (45, .t (i64 j))], [(1, .box (c.enc.map .t)), (3, .box (c.enc.map .t)), (23, .row 3 1 (row (tally c.L.length (A ++ K.take j)))), (27, .row 3 1 (row (List.replicate c.L.length 0)))]⟩) (fun _ => True) same ?_ trivial ?_
          · simp [row, Cod.enc, ints]
          · intro j hj _
            by_cases hjl : j < K.length
            · obtain ⟨hk1, hk2⟩ := hkr K[j] (List.getElem_mem hjl)
              obtain ⟨m, hm⟩ : ∃ m : Nat, K[j] = m := ⟨K[j].toNat, by omega⟩
              have hml : m < c.L.length := by omega
              have hcl : (A ++ K.take j).count (m : Int) ≤ A.length + K.length := Nat.le_trans List.count_le_length (by simp; omega)
              have htb := tally_bump (l := A ++ K.take j) hml
              have htg := tally_get (l := A ++ K.take j) hml
              have hnext : A ++ K.take (j + 1) = (A ++ K.take j) ++ [(m : Int)] := by rw [List.take_add_one, List.getElem?_eq_getElem hjl, hm]; simp
              generalize A ++ K.take j = B at *
              simp [hjl, hm, ints, row, hml, tally_len, htg]
              have hw : wr .i64 ((B.count (m : Int) : Int) + 1) = (B.count (m : Int) : Int) + 1 := wr_id (by omega) (by omega)
              have hw2 : wr .i64 ((j : Int) + 1) = (j : Int) + 1 := wr_id (by omega) (by omega)
              rw [hw2]
              refine up_next same hjl trivial ?_
              simp [hnext, ← htb, row, Cod.enc, ints, hw, List.map_set]
            · have : j = K.length := by omega
              subst this
              simp [ints]
              rw [wr_id (by omega) (by omega)]
              refine up_next same hl ?_ ?_
              · intro j hj
                rcases Nat.lt_succ_iff_lt_or_eq.1 hj with h | h
                · exact hR j h
                · subst h; exact hr
              · simp [htk, row, Cod.enc, ints]
      · have hin : i = c.L.length := by omega
        subst hin
        have hall : ((List.range c.L.length).all fun i => c.rightB i) = true := List.all_eq_true.2 fun j hj => hR j (by simpa using hj)
        have hkr : ∀ j (h : j < c.L.length), ∀ k ∈ c.L[j].kids, (j : Int) < k ∧ k < c.L.length := fun j h =>
          right_kids (c := c) (pl := j) (n := c.L[j]) (by omega) (by have := hR j h; simpa only [Cod.rightB, List.getElem?_eq_getElem h] using this)
        have hAl := kidsum_len c ok c.L.length
        simp only [List.take_length] at hAl
        clear hR hi
        simp [Cod.enc]
        have hbt : ∀ i (h : i < c.Funcs.length), c.bodies.take (i + 1) = c.bodies.take i ++ [c.Funcs[i].Body] := by
          intro i h
          have h' : i < c.bodies.length := by simpa [Cod.bodies] using h
          rw [List.take_add_one, List.getElem?_eq_getElem h', Option.toList_some]; simp [Cod.bodies]
        generalize hA : c.L.flatMap Nod.kids = A at *
        refine loop_up c.Funcs.length (fun i => ⟨[(1, .ptr 1 0 0), (3, .ptr 3 0 0), (4, .slc 23 1 0 c.L.length), (5, .slc 27 1 0 c.L.length), (58, .t (.lst 4 (c.Funcs.map Fun.enc))), (59, .t (i64 c.Funcs.length)), (60, .t (i64 i))], [(1, .box (c.enc.map .t)), (3, .box (c.enc.map .t)), (23, .row 3 1 (row (tally c.L.length (A ++ c.bodies.take i)))), (27, .row 3 1 (row (deep0 c.L.length (c.bodies.take i))))]⟩) (fun i => ∀ j (h : j < c.Funcs.length), j < i → c.child (-1) c.Funcs[j].Body blockB = true) same ?_ (by simp) ?_
        · simp [row, Cod.enc, deep0]
        · intro i hi hR
          by_cases hl : i < c.Funcs.length
          · simp [hl, Cod.enc, Fun.enc]
            refine call_t (ts := [.agg c.enc, i64 (-1), i64 c.Funcs[i].Body, .fn 49 []]) (.bool (c.child (-1) c.Funcs[i].Body blockB)) (child_pure c (-1) c.Funcs[i].Body 49 [] blockB (by simp) (fun k => block_pure k) (by omega) ok.l) (by simp) ?_
            cases hch : c.child (-1) c.Funcs[i].Body blockB with
            | false =>
              have : c.may = 4 := by
                have : (c.Funcs.all fun f => c.child (-1) f.Body blockB) = false := List.all_eq_false.2 ⟨_, List.getElem_mem hl, by simp [hch]⟩
                simp only [Cod.may, hcnt, hall, this]; rfl
              simp [this]
            | true =>
              obtain ⟨hk1, hk2⟩ := child_range (by omega) hch
              obtain ⟨m, hm⟩ : ∃ m : Nat, c.Funcs[i].Body = m := ⟨c.Funcs[i].Body.toNat, by omega⟩
              have hml : m < c.L.length := by omega
              have hbl : (c.bodies.take i).length ≤ 1000 := by simp; omega
              have hcl : (A ++ c.bodies.take i).count (m : Int) ≤ A.length + 1000 := Nat.le_trans List.count_le_length (by simp only [List.length_append]; omega)
              have htb := tally_bump (l := A ++ c.bodies.take i) hml
              have htg := tally_get (l := A ++ c.bodies.take i) hml
              have hnext : A ++ c.bodies.take (i + 1) = (A ++ c.bodies.take i) ++ [(m : Int)] := by rw [hbt i hl, hm]; simp
              have hd0 : deep0 c.L.length (c.bodies.take (i + 1)) = (deep0 c.L.length (c.bodies.take i)).set m 1 := by
                rw [hbt i hl, hm]; simp [deep0]
              generalize A ++ c.bodies.take i = B at *
              simp [hm, row, hml, tally_len, deep0_len, htg]
              have hw : wr .i64 ((B.count (m : Int) : Int) + 1) = (B.count (m : Int) : Int) + 1 := wr_id (by omega) (by omega)
              rw [wr_id (n := (i : Int) + 1) (by omega) (by omega)]
              refine up_next same hl ?_ ?_
              · intro j h hj
                rcases Nat.lt_succ_iff_lt_or_eq.1 hj with h2 | h2
                · exact hR j h h2
                · subst h2; exact hch
              · simp [hnext, ← htb, hd0, row, Cod.enc, hw, List.map_set]
          · have hin : i = c.Funcs.length := by omega
            subst hin
            have hallf : (c.Funcs.all fun f => c.child (-1) f.Body blockB) = true := List.all_eq_true.2 fun f hf => by
              obtain ⟨j, hj, rfl⟩ := List.getElem_of_mem hf
              exact hR j hj hj
            have hbt2 : c.bodies.take c.Funcs.length = c.bodies := List.take_of_length_le (by simp [Cod.bodies])
            rw [hbt2]
            clear hbt hbt2
            simp
            refine call_intro (ts := [ints (tally c.L.length (A ++ c.bodies)), .fn 51 []]) (by simp [ints, row, List.take_of_length_le, tally_len]) (.bool ((tally c.L.length (A ++ c.bodies)).any fun n => !decide (n = 1))) (contains_pure (p := fun n => !decide (n = 1)) (fun k => may1_pure k) (by simp) _ (by simp [tally_len]; omega)) (.inr (by rfl)) ?_
            cases htal : (tally c.L.length (A ++ c.bodies)).any fun n => !decide (n = 1) with
            | true =>
              have : c.may = 4 := by
                subst hA
                simp only [Cod.may, hcnt, hall, hallf, htal]; rfl
              simp [this]
            | false =>
              have hmay : c.may = if c.tooDeep then 6 else 0 := by
                subst hA
                simp only [Cod.may, hcnt, hall, hallf, htal]; rfl
              simp [Cod.enc]
              have hD0 : deep0 c.L.length c.bodies = deep0 c.L.length c.bodies := rfl
              have hDl : (deep0 c.L.length c.bodies).length = c.L.length := deep0_len _ _
              have hDb : ∀ x ∈ deep0 c.L.length c.bodies, 0 ≤ x ∧ x ≤ 1 := deep0_bound _ _
              unfold Cod.tooDeep at hmay
              generalize hD : deep0 c.L.length c.bodies = D at *
              refine loop_up c.L.length (fun i => ⟨[(1, .ptr 1 0 0), (5, .slc 27 1 0 c.L.length), (84, .t (.lst 8 (c.L.map Nod.enc))), (85, .t (i64 c.L.length)), (86, .t (i64 i))], [(1, .box (c.enc.map .t)), (27, .row 3 1 (row (c.deepAt D i)))]⟩) (fun i => (∀ x ∈ c.deepAt D i, 0 ≤ x ∧ x ≤ i + 1) ∧ ∀ j, j < i → ¬ 60 < (c.deepAt D (j + 1)).getD j 0) same ?_ ⟨by simpa [Cod.deepAt] using hDb, by simp⟩ ?_
              · simp [row, Cod.enc, Cod.deepAt]
              · intro i hi ⟨hB, hR⟩
                have hEl : (c.deepAt D i).length = c.L.length := by rw [deepAt_len, hDl]
                by_cases hl : i < c.L.length
                · have hdn : c.deepAt D (i + 1) = deepSet c i (c.deepAt D i) c.L[i].kids := by
                    rw [Cod.deepAt, Cod.deepStep, List.getElem?_eq_getElem hl]; rfl
                  obtain ⟨ho1, ho2, _⟩ := ok.n _ (List.getElem_mem hl)
                  have hk := hkr i hl
                  have hkl := kids_len c.L[i]
                  simp [hl, Cod.enc, Nod.enc, ints]
                  refine call_t (ts := [.agg c.L[i].enc]) _ (kids_pure c.L[i] ho1 ho2) (by simp) ?_
                  generalize hK : c.L[i].kids = K at *
                  generalize hE : c.deepAt D i = E at *
                  have hKl : K.length ≤ 2000000003 := by omega
                  simp [ints]
                  refine loop_up K.length (fun j => ⟨[(1, .ptr 1 0 0), (5, .slc 27 1 0 c.L.length), (11, .t (i64 i)), (84, .t (.lst 8 (c.L.map Nod.enc))), (85, .t (i64 c.L.length)), (86, .t (i64 i)), (92, .t (ints K)), (93, .t (i64 K.length)), (94, .t (i64 j))], [(1, .box (c.enc.map .t)), (27, .row 3 1 (row (deepSet c i E (K.take j))))]⟩) (fun _ => True) same ?_ trivial ?_
                  · simp [row, Cod.enc, ints, deepSet]
                  · intro j hj _
                    have hb2 := deepSet_bound c i (i + 2) (by omega) (K.take j) E (fun x hx => by have := hB x hx; omega) (fun k hk2 => (hk k (List.mem_of_mem_take hk2)).1) (by
                      rw [List.getD_eq_getElem?_getD, List.getElem?_eq_getElem (by omega)]
                      have := hB _ (List.getElem_mem (show i < E.length by omega))
                      simp only [Option.getD_some]; omega)
                    by_cases hjl : j < K.length
                    · obtain ⟨hk1, hk2⟩ := hk K[j] (List.getElem_mem hjl)
                      obtain ⟨m, hm⟩ : ∃ m : Nat, K[j] = m := ⟨K[j].toNat, by omega⟩
                      have hml : m < c.L.length := by omega
                      have hnx : deepSet c i E (K.take (j + 1)) = (deepSet c i E (K.take j)).set m ((deepSet c i E (K.take j)).getD i 0 + 1) := by
                        rw [List.take_add_one, List.getElem?_eq_getElem hjl, hm, Option.toList_some]
                        simp only [deepSet, List.foldl_append, List.foldl_cons, List.foldl_nil, Int.toNat_natCast]
                      have hFl : (deepSet c i E (K.take j)).length = c.L.length := by rw [deepSet_len, hEl]
                      generalize deepSet c i E (K.take j) = F at *
                      have hFi : i < F.length := by omega
                      have hFg : F.getD i 0 = F[i] := by rw [List.getD_eq_getElem?_getD, List.getElem?_eq_getElem hFi]; rfl
                      obtain ⟨hb3, hb4⟩ := hb2 F[i] (List.getElem_mem hFi)
                      rw [hFg] at hnx
                      simp [hjl, hm, ints, row, hml, hl, hFl]
                      have hw : wr .i64 (F[i] + 1) = F[i] + 1 := wr_id (by omega) (by omega)
                      rw [wr_id (n := (j : Int) + 1) (by omega) (by omega)]
                      refine up_next same hjl trivial ?_
                      simp [hnx, row, Cod.enc, ints, hw, List.map_set]
                    · have : j = K.length := by omega
                      subst this
                      rw [List.take_length] at hb2 ⊢
                      have hFl : (deepSet c i E K).length = c.L.length := by rw [deepSet_len, hEl]
                      rw [← hdn] at hb2 hFl ⊢
                      generalize hF : c.deepAt D (i + 1) = F at *
                      have hFi : i < F.length := by omega
                      have hFg : F.getD i 0 = F[i] := by rw [List.getD_eq_getElem?_getD, List.getElem?_eq_getElem hFi]; rfl
                      by_cases hd : 60 < F[i]
                      · have : c.may = 6 := by
                          have : ((List.range c.L.length).any fun j => decide (60 < (c.deepAt D (j + 1)).getD j 0)) = true := List.any_eq_true.2 ⟨i, by simpa using hl, by rw [hF, hFg]; simpa using hd⟩
                          rw [hmay, this]; rfl
                        simp [ints, row, hl, hFl, hd, this]
                      · simp [ints, row, hl, hFl, hd]
                        rw [wr_id (n := (i : Int) + 1) (by omega) (by omega)]
                        refine up_next same hl ⟨?_, ?_⟩ ?_
                        · rw [hF]; intro x hx; have := hb2 x hx; omega
                        · intro j hj
                          rcases Nat.lt_succ_iff_lt_or_eq.1 hj with h2 | h2
                          · simpa using hR j h2
                          · subst h2; rw [hF, List.getElem?_eq_getElem hFi]; simpa using hd
                        · simp [hF, row, Cod.enc]
                · have hin : i = c.L.length := by omega
                  subst hin
                  have : c.may = 0 := by
                    have : ((List.range c.L.length).any fun j => decide (60 < (c.deepAt D (j + 1)).getD j 0)) = false := List.any_eq_false.2 fun j hj => by simpa using hR j (by simpa using hj)
                    rw [hmay, this]; rfl
                  simp [this]

end Go.Eng
