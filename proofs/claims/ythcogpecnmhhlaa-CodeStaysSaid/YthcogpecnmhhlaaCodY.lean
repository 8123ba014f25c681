/- What the program's functions 3 compute (numbers of this seat): contracts, walked by the engine. -/
import Derived.Test.YthcogpecnmhhlaaEngU
import Derived.Test.YthcogpecnmhhlaaCodX
import Derived.Test.YthcogpecnmhhlaaProg
namespace Go.Eng
open Go Go.Proofs
set_option maxRecDepth 100000
set_option linter.all false
def c3 : Cd := (.seq (.reg [o1 2 (.box true 4 (.t 0)), o1 3 (.box true 4 (.t 1)), o1 4 (.mv (.c (.bool false)))] false) (.seq (.reg [oa 9 [] (.ld true 4 (.t 2)), oa 10 [0] (.call 7 [(.t 9)]), oa 11 [] (.ld true 4 (.t 3)), oa 12 [2, 1] (.callw 7 [(.t 11)]), ob [1, 3, 0, 1] (.st 4 (.t 2) (.t 10)), ob [3, 4, 0, 1, 2, 3, 4] (.st 4 (.t 3) (.t 12))] true) (.seq (.reg [o1 14 (.ld true 4 (.t 2)), o1 15 (.call 7 [(.t 14)]), o1 16 (.call 8 [(.t 15)]), o1 13 (.mv (.t 16)), o1 17 (.ext 0 (.t 13)), o1 18 (.ext 1 (.t 13)), o1 5 (.new [.str ByteArray.empty, .nils, .nils, .nils]), o0 (.st 4 (.t 5) (.t 17)), o1 6 (.mv (.t 18))] false) (.seq (.reg [oa 19 [] (.ld true 4 (.t 2)), oa 20 [0] (.call 9 [(.t 19)]), oa 21 [1] (.bin .eql (.t 20) (cI 0)), oa 22 [2, 1] (.mv (.t 21)), oga 23 22 true [3] (.ld true 4 (.t 3)), oga 24 22 true [4, 3, 3] (.call 9 [(.t 23)]), oga 25 22 true [5, 3] (.bin .eql (.t 24) (cI 0)), oa 26 [3, 6] (.pick (.t 22) (.t 25) (.c (.bool false))), oa 27 [7, 5] (.mv (.t 26)), oga 28 27 true [8] (.ld true 4 (.t 2)), oga 29 27 true [9, 8, 8] (.call 11 [(.t 28)]), oga 30 27 true [8] (.ld true 4 (.t 3)), oga 31 27 true [11, 10, 8] (.call 11 [(.t 30)]), oga 32 27 true [10, 12, 12, 8] (.callw 10 [(.t 29), (.t 31)]), oa 33 [8, 13] (.pick (.t 27) (.t 32) (.c (.bool false))), oa 7 [14, 13, 0, 1, 2, 3, 4, 5, 6, 7, 8, 9, 10, 11, 12, 13, 14] (.mv (.t 33))] true) (.seq (.seq (.reg [oa 34 [] (.ld true 4 (.t 2)), oa 35 [0] (.call 7 [(.t 34)]), oa 36 [] (.ld true 4 (.t 3)), oa 37 [2, 1] (.call 7 [(.t 36)]), oa 38 [1, 3, 3] (.callw 12 [(.t 35), (.t 37)]), oa 39 [] (.mv (.t 7)), oa 40 [4, 5] (.beq true (.t 38) (.t 39))] true) (.cond (.t 40) (.seq (.reg [o1 4 (.mv (.c (.bool false)))] false) .ret) .skip)) (.seq (.seq (.reg [o1 41 (.ld true 4 (.t 2)), o1 42 (.call 9 [(.t 41)]), o1 8 (.mv (.t 42))] false) (.seq (.reg [o1 43 (.mv (.t 8)), o1 44 (.bin .neq (.t 43) (cI 0))] false) (.cond (.t 44) (.seq (.reg [o1 45 (.mv (.t 6)), o1 46 (.mv (.t 8)), o1 47 (.bin .eql (.t 45) (.t 46)), o1 48 (.mv (.t 47)), og 49 48 true (.fa 3 (.t 5)), og 50 48 true (.ld false 1 (.t 49)), og 51 48 true (.len (.t 50)), og 52 48 true (.fa 2 (.t 5)), og 53 48 true (.ld false 1 (.t 52)), og 54 48 true (.len (.t 53)), og 55 48 true (.bin .add (.t 51) (.t 54)), og 56 48 true (.bin .eql (.t 55) (cI 0)), o1 57 (.pick (.t 48) (.t 56) (.c (.bool false))), o1 58 (.mv (.t 57)), og 59 58 true (.call 13 []), o1 60 (.pick (.t 58) (.t 59) (.c (.bool false))), o1 4 (.mv (.t 60))] false) .ret) .skip))) (.seq (.reg [oa 61 [] (.mv (.t 6)), oa 62 [0] (.bin .eql (.t 61) (cI 0)), oa 63 [1] (.mv (.t 62)), oga 64 63 true [2] (.ld true 4 (.t 5)), oga 65 63 true [2] (.ld true 4 (.t 2)), oga 66 63 true [4, 2, 2] (.call 11 [(.t 65)]), oga 67 63 true [3, 5, 5, 2] (.call 10 [(.t 64), (.t 66)]), oa 68 [2, 6] (.pick (.t 63) (.t 67) (.c (.bool false))), oa 69 [7, 6] (.mv (.t 68)), oga 70 69 true [8, 8] (.callw 13 []), oa 71 [8, 9] (.pick (.t 69) (.t 70) (.c (.bool false))), oa 4 [10, 9, 0, 1, 2, 3, 4, 5, 6, 7, 8, 9, 10] (.mv (.t 71))] true) .ret)))))))
theorem tr3 : tr Try.prog (Try.f3.body.getD .skip) = some c3 := by kernel_rfl
set_option maxHeartbeats 2000000
attribute [local simp] cut spl one fillT
theorem eqAll_refl {α : Type} {p : α → α → Bool} (h : ∀ x, p x x = true) : ∀ l : List α, eqAll p l l = true
  | [] => rfl
  | x :: r => by rw [eqAll, h x, eqAll_refl h r]; rfl
theorem sameIs_refl (l : List Int) : sameIs l l = true := eqAll_refl (by simp) l
theorem sameFs_refl (l : List Fld) : sameFs l l = true := eqAll_refl (by simp [Fld.same]) l
theorem Str_refl (s : Str) : s.same s = true := by simp [Str.same, sameFs_refl]
theorem Fun_refl (s : Fun) : s.same s = true := by simp [Fun.same, sameFs_refl]
theorem Cas_refl (s : Cas) : s.same s = true := by simp [Cas.same, sameIs_refl]
theorem Nod_refl (s : Nod) : s.same s = true := by simp [Nod.same, sameIs_refl, eqAll_refl Cas_refl]
theorem Cod_refl (c : Cod) : c.same c = true := by simp [Cod.same, eqAll_refl Str_refl, eqAll_refl Fun_refl, eqAll_refl Nod_refl]
theorem puts_other : ∀ (l d : List Int) (n : Nat) (k : Nat), (∀ x ∈ l, 0 ≤ x) → (k : Int) ∉ l → (puts d n l)[k]? = d[k]?
  | [], _, _, _, _, _ => rfl
  | i :: r, d, n, k, h0, h => by
    have hi := h0 i List.mem_cons_self
    rw [puts, puts_other r _ _ k (fun x hx => h0 x (List.mem_cons_of_mem _ hx)) (fun hm => h (List.mem_cons_of_mem _ hm)), List.getElem?_set_ne (fun e => h (by rw [← e, Int.toNat_of_nonneg hi]; exact List.mem_cons_self))]
theorem puts_get : ∀ (l d : List Int) (n : Nat), (∀ x ∈ l, 0 ≤ x ∧ x < d.length) → (∀ x ∈ l, l.count x = 1) → ∀ (j : Nat) (h : j < l.length), (puts d n l)[l[j].toNat]? = .some ((n + j : Nat) : Int)
  | [], _, _, _, _, j, h => by simp at h
  | i :: r, d, n, h0, hc, j, h => by
    have hi := h0 i List.mem_cons_self
    have hir : i ∉ r := by
      intro hm
      have := hc i List.mem_cons_self
      rw [List.count_cons_self] at this
      have := List.count_pos_iff.2 hm
      omega
    cases j with
    | zero =>
      rw [puts]
      simp only [List.getElem_cons_zero]
      rw [puts_other r _ _ i.toNat (fun x hx => (h0 x (List.mem_cons_of_mem _ hx)).1) (by rw [Int.toNat_of_nonneg hi.1]; exact hir), List.getElem?_set_self (by omega)]
      simp
    | succ j =>
      rw [puts]
      have := puts_get r (d.set i.toNat n) (n + 1) (fun x hx => by rw [List.length_set]; exact h0 x (List.mem_cons_of_mem _ hx)) (fun x hx => by
        have h1 := hc x (List.mem_cons_of_mem _ hx)
        rw [List.count_cons_of_ne (fun e => hir (by rw [e]; exact hx))] at h1
        exact h1) j (by simpa using h)
      simp only [List.getElem_cons_succ]
      rw [this]
      congr 2; omega
theorem order_walk {c : Cod} (t : c.Tree) (j : Nat) (h : j < c.walk.length) : c.order[c.walk[j].toNat]? = .some (j : Int) := by
  have := puts_get c.walk (List.replicate c.L.length 0) 0 (fun x hx => by rw [List.length_replicate]; exact walk_mem t x hx) (fun x hx => by
    obtain ⟨a, b⟩ := walk_mem t x hx
    have := walk_once t x.toNat (by omega)
    rwa [Int.toNat_of_nonneg a] at this) j h
  rw [Nat.zero_add] at this
  exact this
theorem walk_has {c : Cod} (t : c.Tree) (i : Nat) (h : i < c.L.length) : ∃ j, ∃ hj : j < c.walk.length, c.walk[j] = (i : Int) := by
  have : (i : Int) ∈ c.walk := List.count_pos_iff.1 (by rw [walk_once t i h]; omega)
  obtain ⟨j, hj, e⟩ := List.getElem_of_mem this
  exact ⟨j, hj, e⟩
theorem normLAt_get {c : Cod} (t : c.Tree) : ∀ m, m ≤ c.L.length → ∀ (j : Nat) (hj : j < c.walk.length), c.walk[j] < m → (c.normLAt m)[j]? = .some (c.movedAt c.order c.walk[j])
  | 0, _, j, hj, h => by have := (walk_mem t _ (List.getElem_mem hj)).1; omega
  | m + 1, hm, j, hj, h => by
    have hwl := walk_len t
    obtain ⟨q1, q2⟩ := walk_mem t _ (List.getElem_mem hj)
    obtain ⟨j', hj', e'⟩ := walk_has t m (by omega)
    have ho := order_walk t j' hj'
    rw [e', Int.toNat_natCast] at ho
    rw [normLAt_succ, List.getD_eq_getElem?_getD, ho, Option.getD_some, Int.toNat_natCast]
    by_cases e : c.walk[j] = (m : Int)
    · have hjj : j' = j := by
        have h1 := order_walk t j hj
        rw [e, Int.toNat_natCast, ho] at h1
        have := Option.some.inj h1
        omega
      subst hjj
      rw [List.getElem?_set_self (by rw [normLAt_len]; omega), e]
      simp [Cod.movedAt]
    · have hjj : j' ≠ j := by
        intro h1; subst h1; exact e e'
      rw [List.getElem?_set_ne hjj]
      exact normLAt_get t m (by omega) j hj (by omega)
theorem normR_eq {c : Cod} (t : c.Tree) : c.normR = c.normed := by
  have : c.walk.map (c.movedAt c.order) = c.normLAt c.L.length := by
    have hwl := walk_len t
    refine List.ext_getElem? fun j => ?_
    by_cases hj : j < c.walk.length
    · rw [normLAt_get t _ (Nat.le_refl _) j hj (walk_mem t _ (List.getElem_mem hj)).2, List.getElem?_map, List.getElem?_eq_getElem hj]; rfl
    · rw [List.getElem?_eq_none (by simp; omega), List.getElem?_eq_none (by rw [normLAt_len]; omega)]
  rw [Cod.normR, Cod.normed, this]
theorem norm_bounds (c : Cod) : (c.few 300).norm.Structs.length ≤ 1000000000 ∧ (∀ s ∈ (c.few 300).norm.Structs, s.L.length ≤ 140737488355328) ∧ (c.few 300).norm.Funcs.length ≤ 1000000000 ∧ (∀ s ∈ (c.few 300).norm.Funcs, s.Params.length ≤ 140737488355328) ∧ (c.few 300).norm.L.length ≤ 1000000000 ∧
    (∀ n ∈ (c.few 300).norm.L, n.L.length ≤ 1000000000 ∧ n.Cases.length ≤ 1000000000 ∧ ∀ x ∈ n.Cases, x.L.length ≤ 1000000000) := by
  by_cases h : (c.few 300).may = 0
  · rw [Cod.norm, if_pos h]
    refine ⟨by have := few_S c; simp only [Cod.normed]; omega, fun s hs => by have := few_S2 c s hs; omega, by have := few_F c; simp only [Cod.normed, List.length_map]; omega, fun s hs => ?_, by simp only [Cod.normed, normLAt_len]; have := few_len c; omega, fun n hn => normLAt_ok _ h (few_ok c) (few_ok2 c) _ n hn⟩
    obtain ⟨f, hf, rfl⟩ := List.mem_map.1 hs
    have := few_F2 c f hf
    simp only [Fun.moved]; omega
  · rw [Cod.norm, if_neg h]; simp [Cod.none]
theorem may_counted {c : Cod} (h : c.may = 0) : c.counted = true := by
  cases e : c.counted with
  | true => rfl
  | false => simp [Cod.may, e] at h
theorem norms_pure (a b : Cod) (ha : a.Fit) (hb : b.Fit) : Pure Try.prog 3 [.agg a.enc, .agg b.enc] (.bool true) := by
  refine walk_of mo Try.func3 tr3 (rs := [.tmp 4]) (by rfl) (by rfl) ?_
  unfold c3
  have fa := few_pure a ha
  have fb := few_pure b hb
  have fa2 := few_pure _ (few_fit a)
  have fb2 := few_pure _ (few_fit b)
  rw [few_idem] at fa2 fb2
  have na := norm_pure _ (few_ok a) (few_ok2 a)
  have ma := rmay_pure _ (few_ok a) (by have := few_S a; omega) (by have := few_F a; omega)
  have mb := rmay_pure _ (few_ok b) (by have := few_S b; omega) (by have := few_F b; omega)
  have ra := rnorm_pure _ (few_ok a) (few_ok2 a)
  have rb := rnorm_pure _ (few_ok b) (few_ok2 b)
  have sab := same_pure _ _ (few_ok a) (few_ok2 a) (few_ok b) (few_ok2 b)
  obtain ⟨b1, b2, b3, b4, b5, b6⟩ := norm_bounds a
  have rs := fun y => rsameC_pure (a.few 300).norm y b1 b2 b3 b4 b5 (fun n hn => by
    obtain ⟨x1, x2, x3⟩ := b6 n hn
    exact ⟨by omega, by omega, fun x hx => by have := x3 x hx; omega⟩)
  have tA : (a.few 300).may = 0 → (a.few 300).normR = (a.few 300).norm := fun h => by rw [normR_eq (may_tree h), Cod.norm, if_pos h]
  have tB : (b.few 300).may = 0 → (b.few 300).normR = (b.few 300).norm := fun h => by rw [normR_eq (may_tree h), Cod.norm, if_pos h]
  have hlen : (a.few 300).may = 0 → True := fun _ => trivial
  have hnone : (a.few 300).may ≠ 0 → (a.few 300).norm = Cod.none := fun h => by rw [Cod.norm, if_neg h]
  replace ra : (a.few 300).may = 0 → Pure Try.prog 11 [.agg (a.few 300).enc] (.agg (a.few 300).norm.enc) := fun h => by rw [← tA h]; exact ra (may_tree h) (may_counted h)
  replace rb : (b.few 300).may = 0 → Pure Try.prog 11 [.agg (b.few 300).enc] (.agg (b.few 300).norm.enc) := fun h => by rw [← tB h]; exact rb (may_tree h) (may_counted h)
  have hsn : (a.few 300).sameN (b.few 300) = (decide ((a.few 300).may = 0) && decide ((b.few 300).may = 0) && (a.few 300).norm.same (b.few 300).norm) := rfl
  rw [hsn] at sab
  clear hsn tA tB hlen b1 b2 b3 b4 b5 b6
  generalize (a.few 300).may = mA at *
  generalize (b.few 300).may = mB at *
  generalize (a.few 300).norm = X at *
  generalize (b.few 300).norm = Y at *
  generalize hA : a.few 300 = A at *
  generalize hB : b.few 300 = B at *
  simp [Cod.enc]
  refine callD_intro (ts := [.agg a.enc]) (by simp [Cod.enc]) _ fa (.inl (by rfl)) ?_
  simp [Cod.enc]
  refine callD_intro (ts := [.agg b.enc]) (by simp [Cod.enc]) _ fb (.inl (by rfl)) ?_
  simp [Cod.enc]
  refine call_t (ts := [.agg A.enc]) _ fa2 (by simp) ?_
  simp [Cod.enc]
  refine call_t (ts := [.agg A.enc]) _ na (by simp) ?_
  simp [Cod.enc]
  refine callD_intro (ts := [.agg A.enc]) (by simp [Cod.enc]) _ ma (.inl (by rfl)) ?_
  by_cases hmA : mA = 0
  · have rA := ra hmA
    by_cases hmB : mB = 0
    · have rB := rb hmB
      simp [hmA, Cod.enc]
      refine callD_intro (ts := [.agg B.enc]) (by simp [Cod.enc]) _ mb (.inl (by rfl)) ?_
      simp [hmB, Cod.enc]
      refine callD_intro (ts := [.agg A.enc]) (by simp [Cod.enc]) _ rA (.inl (by rfl)) ?_
      simp [Cod.enc]
      refine callD_intro (ts := [.agg B.enc]) (by simp [Cod.enc]) _ rB (.inl (by rfl)) ?_
      simp [Cod.enc]
      refine callD_intro (ts := [.agg X.enc, .agg Y.enc]) (by simp [Cod.enc]) _ (rs Y) (.inl (by rfl)) ?_
      simp [Cod.enc]
      refine callD_intro (ts := [.agg A.enc]) (by simp [Cod.enc]) _ fa2 (.inl (by rfl)) ?_
      simp [Cod.enc]
      refine callD_intro (ts := [.agg B.enc]) (by simp [Cod.enc]) _ fb2 (.inl (by rfl)) ?_
      simp [Cod.enc]
      refine callD_intro (ts := [.agg A.enc, .agg B.enc]) (by simp [Cod.enc]) _ sab (.inl (by rfl)) ?_
      simp [hmA, hmB, Cod.enc]
      refine call_t (ts := [.agg A.enc]) _ ma (by simp) ?_
      simp [hmA, Cod.enc]
      refine callD_intro (ts := [.agg A.enc]) (by simp [Cod.enc]) _ rA (.inl (by rfl)) ?_
      simp [Cod.enc]
      refine callD_intro (ts := [.agg X.enc, .agg X.enc]) (by simp [Cod.enc]) _ (rs X) (.inl (by rfl)) ?_
      simp [Cod_refl]
      refine callD_intro (ts := []) (by simp) _ works_pure (.inl (by rfl)) ?_
      simp
    · simp [hmA, Cod.enc]
      refine callD_intro (ts := [.agg B.enc]) (by simp [Cod.enc]) _ mb (.inl (by rfl)) ?_
      simp [hmB, Cod.enc]
      refine callD_intro (ts := [.agg A.enc]) (by simp [Cod.enc]) _ fa2 (.inl (by rfl)) ?_
      simp [Cod.enc]
      refine callD_intro (ts := [.agg B.enc]) (by simp [Cod.enc]) _ fb2 (.inl (by rfl)) ?_
      simp [Cod.enc]
      refine callD_intro (ts := [.agg A.enc, .agg B.enc]) (by simp [Cod.enc]) _ sab (.inl (by rfl)) ?_
      simp [hmA, hmB, Cod.enc]
      refine call_t (ts := [.agg A.enc]) _ ma (by simp) ?_
      simp [hmA, Cod.enc]
      refine callD_intro (ts := [.agg A.enc]) (by simp [Cod.enc]) _ rA (.inl (by rfl)) ?_
      simp [Cod.enc]
      refine callD_intro (ts := [.agg X.enc, .agg X.enc]) (by simp [Cod.enc]) _ (rs X) (.inl (by rfl)) ?_
      simp [Cod_refl]
      refine callD_intro (ts := []) (by simp) _ works_pure (.inl (by rfl)) ?_
      simp
  · have hX := hnone hmA
    simp [hmA, Cod.enc]
    refine callD_intro (ts := [.agg A.enc]) (by simp [Cod.enc]) _ fa2 (.inl (by rfl)) ?_
    simp [Cod.enc]
    refine callD_intro (ts := [.agg B.enc]) (by simp [Cod.enc]) _ fb2 (.inl (by rfl)) ?_
    simp [Cod.enc]
    refine callD_intro (ts := [.agg A.enc, .agg B.enc]) (by simp [Cod.enc]) _ sab (.inl (by rfl)) ?_
    simp [hmA, Cod.enc]
    refine call_t (ts := [.agg A.enc]) _ ma (by simp) ?_
    have hw0 : wr .i64 0 = 0 := wr_id (by omega) (by omega)
    simp [hmA, hX, Cod.none, hw0]
    refine call_t (ts := []) _ works_pure (by simp) ?_
    simp

end Go.Eng
