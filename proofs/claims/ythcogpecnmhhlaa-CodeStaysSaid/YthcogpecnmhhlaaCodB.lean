/- What the program's functions 85 compute (numbers of this seat): contracts, walked by the engine. -/
import Derived.Test.YthcogpecnmhhlaaEngU
import Derived.Test.YthcogpecnmhhlaaCodA
import Derived.Test.YthcogpecnmhhlaaProg
namespace Go.Eng
open Go Go.Proofs
set_option maxRecDepth 100000
set_option linter.all false
def c85 : Cd := (.seq (.reg [o1 4 (.mv (.c (.nils)))] false) (.seq (.reg [o1 8 (.mv (.t 0)), o1 9 (.mv (.t 1)), o1 10 (.call 87 [(.t 8), (.t 9)]), o1 5 (.mv (.t 10))] false) (.seq (.seq (.reg [o1 11 (.mv (.t 5)), o1 12 (.bin .eql (.t 11) (cI (-1)))] false) (.cond (.t 12) (.seq (.reg [o1 13 (.mv (.t 0)), o1 4 (.mv (.t 13))] false) .ret) .skip)) (.seq (.seq (.reg [o1 14 (.mv (.t 5)), o1 15 (.bin .add (.t 14) (cI 1)), o1 6 (.mv (.t 15))] false) (.blk 0 (.loop (.seq (.seq (.reg [o1 16 (.mv (.t 6)), o1 17 (.mv (.t 0)), o1 18 (.len (.t 17)), o1 19 (.bin .lss (.t 16) (.t 18))] false) (.cond (.t 19) .skip (.exit 0))) (.seq (.blk 1 (.seq (.reg [o1 22 (.mv (.t 0)), o1 23 (.mv (.t 6)), o1 24 (.ia 1 (.t 22) (.t 23)), o1 25 (.ld false 1 (.t 24)), o1 7 (.mv (.t 25))] false) (.seq (.reg [o1 26 (.mv (.t 1)), o1 27 (.mv (.t 7)), o1 28 (.callv (.t 26) [(.t 27)]), o1 29 (.not (.t 28))] false) (.cond (.t 29) (.seq (.reg [o1 30 (.mv (.t 0)), o1 31 (.mv (.t 5)), o1 32 (.mv (.t 7)), o1 33 (.ia 1 (.t 30) (.t 31)), o0 (.st 1 (.t 33) (.t 32))] false) (.reg [o1 34 (.mv (.t 5)), o1 35 (.bin .add (.t 34) (cI 1)), o1 5 (.mv (.t 35))] false)) .skip)))) (.reg [o1 20 (.mv (.t 6)), o1 21 (.bin .add (.t 20) (cI 1)), o1 6 (.mv (.t 21))] false)))))) (.seq (.reg [o1 36 (.mv (.t 0)), o1 37 (.mv (.t 5)), o1 38 (.sl 1 (.t 36) (some (.t 37)) none), o0 (.clr 1 [.int .i64 0] (.t 38))] false) (.seq (.reg [o1 39 (.mv (.t 0)), o1 40 (.mv (.t 5)), o1 41 (.sl 1 (.t 39) none (some (.t 40))), o1 4 (.mv (.t 41))] false) .ret))))))
theorem tr85 : tr Try.prog (Try.f85.body.getD .skip) = some c85 := by kernel_rfl
set_option maxHeartbeats 1000000
theorem firstAt_spec {α : Type} {p : α → Bool} : ∀ {a : List α} {k : Int}, firstAt p a k = -1 ∧ (∀ x ∈ a, p x = false) ∨ ∃ i : Nat, ∃ h : i < a.length, firstAt p a k = k + i ∧ p a[i] = true ∧ ∀ x ∈ a.take i, p x = false
  | [], _ => .inl ⟨rfl, by simp⟩
  | x :: r, k => by
    cases hp : p x with
    | true => exact .inr ⟨0, by simp, by simp [firstAt, hp], by simpa using hp, by simp⟩
    | false =>
      rcases firstAt_spec (p := p) (a := r) (k := k + 1) with ⟨h1, h2⟩ | ⟨i, h, h1, h2, h3⟩
      · exact .inl ⟨by simp [firstAt, hp, h1], by simpa [hp] using h2⟩
      · exact .inr ⟨i + 1, by simpa using h, by simp [firstAt, hp, h1]; omega, by simpa using h2, by simpa [hp] using h3⟩
abbrev row (a : List Int) : List (List T) := a.map fun n => [i64 n]
theorem del_eff (p : Int → Bool) (f : Nat) (caps : List T) (hc : caps.length < 30) (h : ∀ x, Pure Try.prog f (i64 x :: caps) (.bool (p x))) (a : List Int) (ha : a.length ≤ 140737488355328) :
    Eff Try.prog 85 [.slc far 1 0 a.length, .t (.fn f caps)] [(far, .row 3 1 (row a))] (.slc far 1 0 (a.filter fun x => !p x).length) [(far, .row 3 1 (row ((a.filter fun x => !p x) ++ List.replicate (a.length - (a.filter fun x => !p x).length) 0)))] := by
  refine walk_eff mo Try.func85 tr85 (rs := [.tmp 4]) (by rfl) (by rfl) ?_
  unfold c85
  simp [parV]
  refine call_intro (ts := [ints a, .fn f caps]) (by simp [cut, ints, List.take_of_length_le]) (i64 (firstAt p a 0)) (index_pure h hc a ha) (.inr (by rfl)) ?_
  simp
  rcases firstAt_spec (p := p) (a := a) (k := 0) with ⟨h1, h2⟩ | ⟨i0, hi0, h1, h2, h3⟩
  · have hf : (a.filter fun x => !p x) = a := List.filter_eq_self.2 fun x hx => by simp [h2 x hx]
    simp [h1, hf]
    refine (retE_ret same rfl (fun _ _ => rfl) ?_ ?_ ?_ ?_ ?_).1 <;> simp [V.all, Ob.all, okN, row]
  · have hne : ¬ (0 + (i0 : Int) = -1) := by omega
    simp [h1, hne]
    rw [wr_id (by omega) (by omega)]
    refine loop_x (X := Nat × List Int) (fun x => ⟨[(0, .slc far 1 0 a.length), (1, .t (.fn f caps)), (5, .t (i64 ((a.take x.1).filter fun x => !p x).length)), (6, .t (i64 x.1))], [(far, .row 3 1 (row x.2))]⟩) (fun x => a.length - x.1)
      (fun x => x.1 ≤ a.length ∧ x.2.length = a.length ∧ x.2.take ((a.take x.1).filter fun x => !p x).length = ((a.take x.1).filter fun x => !p x) ∧ x.2.drop x.1 = a.drop x.1) same (i0 + 1, a) ?_ ?_ ?_
    · have hf : ((a.take (i0 + 1)).filter fun x => !p x).length = i0 := by
        rw [List.take_add_one, List.filter_append, List.filter_eq_self.2 (fun x hx => by simp [h3 x hx]), List.getElem?_eq_getElem hi0]
        simp [h2]; omega
      simp [hf, row]
    · have hf : ((a.take (i0 + 1)).filter fun x => !p x) = a.take i0 := by
        rw [List.take_add_one, List.filter_append, List.filter_eq_self.2 (fun x hx => by simp [h3 x hx]), List.getElem?_eq_getElem hi0]
        simp [h2]
      refine ⟨hi0, rfl, ?_, rfl⟩
      simp only [hf]
      simp [List.length_take]
    · rintro ⟨j, b⟩ ⟨hj, hb, r1, r2⟩
      simp only at hj hb r1 r2
      by_cases hl : j < a.length
      · have hlb : j < b.length := by omega
        have hbj : b[j] = a[j] := by
          have e1 : (b.drop j)[0]? = (a.drop j)[0]? := by rw [r2]
          simpa [hl, hlb] using e1
        simp [hl, hlb, hbj, row]
        refine call_t (ts := i64 a[j] :: caps) (.bool (p a[j])) (h _) (by simp; omega) ?_
        have ht : a.take (j + 1) = a.take j ++ [a[j]] := by rw [List.take_add_one, List.getElem?_eq_getElem hl]; rfl
        have hi : ((a.take j).filter fun x => !p x).length ≤ j := Nat.le_trans (List.length_filter_le _ _) (by simp; omega)
        have hd : b.drop (j + 1) = a.drop (j + 1) := by
          rw [← List.drop_drop, ← List.drop_drop, r2]
        cases hp : p a[j] with
        | true =>
          have hf : ((a.take (j + 1)).filter fun x => !p x) = ((a.take j).filter fun x => !p x) := by rw [ht, List.filter_append]; simp [hp]
          clear ht
          simp
          rw [wr_id (by omega) (by omega)]
          refine ⟨same, (j + 1, b), by simp; omega, ?_, hl, hb, ?_, hd⟩
          · simp [hf, row]
          · simp only [hf]; exact r1
        | false =>
          have hf : ((a.take (j + 1)).filter fun x => !p x) = ((a.take j).filter fun x => !p x) ++ [a[j]] := by rw [ht, List.filter_append]; simp [hp]
          clear ht
          have hib : ((a.take j).filter fun x => !p x).length < b.length := by omega
          generalize hF : ((a.take j).filter fun x => !p x) = F at *
          simp [hib, show F.length < a.length by omega]
          rw [wr_id (by omega) (by omega), wr_id (by omega) (by omega)]
          refine ⟨same, (j + 1, b.set F.length a[j]), by simp; omega, ?_, hl, by simp [hb], ?_, ?_⟩
          · simp [hf, row, spl, List.map_set]
          · simp only [hf, List.length_append, List.length_singleton]
            rw [List.take_add_one, List.take_set_of_le (by omega), r1]
            simp [hib]
          · simp only
            rw [List.drop_set, if_pos (by omega), hd]
      · have : j = a.length := by omega
        subst this
        simp only [List.take_length] at r1
        generalize hF : (a.filter fun x => !p x) = F at *
        have hFl : F.length ≤ a.length := by rw [← hF]; exact List.length_filter_le _ _
        simp [row, hF]
        refine req_intro hFl ?_
        have hrow : b.take F.length ++ List.replicate (a.length - F.length) 0 ++ b.drop (F.length + (a.length - F.length)) = F ++ List.replicate (a.length - F.length) 0 := by
          rw [r1, List.drop_eq_nil_of_le (by omega), List.append_nil]
        have hb2 : F.length + (a.length - F.length) ≤ b.length := by omega
        generalize hm : a.length - F.length = m at *
        cases m with
        | zero =>
          have : b = F := by rw [← r1, List.take_of_length_le (by omega)]
          simp
          refine req_intro hFl ?_
          simp
          refine (retE_ret same rfl (fun _ _ => rfl) ?_ ?_ ?_ ?_ ?_).1 <;> simp [V.all, Ob.all, okN, this]
        | succ m =>
          simp [hb2]
          refine req_intro hFl ?_
          have hrow2 : List.take F.length (List.map (fun n => [T.int IntKind.i64 n]) b) ++ (List.replicate (m + 1) [T.int IntKind.i64 0] ++ List.drop (F.length + (m + 1)) (List.map (fun n => [T.int IntKind.i64 n]) b)) = List.map (fun n => [T.int IntKind.i64 n]) F ++ List.replicate (m + 1) [T.int IntKind.i64 0] := by
            have := congrArg (List.map fun n => [T.int IntKind.i64 n]) hrow
            simpa [List.map_take, List.map_drop] using this
          simp [hrow2]
          refine (retE_ret same rfl (fun _ _ => rfl) ?_ ?_ ?_ ?_ ?_).1 <;> simp [V.all, Ob.all, okN]

end Go.Eng
