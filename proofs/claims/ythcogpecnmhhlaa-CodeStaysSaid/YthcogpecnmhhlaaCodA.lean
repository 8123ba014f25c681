/- What the program's functions 54,86,87 compute (numbers of this seat): contracts, walked by the engine. -/
import Derived.Test.YthcogpecnmhhlaaEngU
import Derived.Test.YthcogpecnmhhlaaProg
namespace Go.Eng
open Go Go.Proofs
set_option maxRecDepth 100000
set_option linter.all false
def c54 : Cd := (.seq (.reg [o1 2 (.mv (.c (.nils)))] false) (.seq (.seq (.reg [o1 3 (.mv (.t 0)), o1 4 (.isnil false 1 (.t 3))] false) (.cond (.t 4) (.seq (.reg [o1 2 (.mv (.c (.nils)))] false) .ret) .skip)) (.seq (.reg [o1 5 (.bs 3 1 0 []), o1 6 (.mv (.t 0)), o1 7 (.app 3 1 8 (.t 5) (.t 6)), o1 2 (.mv (.t 7))] false) .ret)))
theorem tr54 : tr Try.prog (Try.f54.body.getD .skip) = some c54 := by kernel_rfl
def c86 : Cd := (.seq (.reg [o1 2 (.mv (.c (.bool false)))] false) (.seq (.reg [o1 3 (.mv (.t 0)), o1 4 (.bin .eql (.t 3) (cI (-1))), o1 2 (.mv (.t 4))] false) .ret))
theorem tr86 : tr Try.prog (Try.f86.body.getD .skip) = some c86 := by kernel_rfl
def c87 : Cd := (.seq (.reg [o1 4 (.mv (cI 0))] false) (.seq (.seq (.reg [o1 6 (.mv (.t 0)), o1 7 (.len (.t 6)), o1 8 (.mv (cI 0))] false) (.blk 0 (.loop (.seq (.reg [o1 9 (.bin .lss (.t 8) (.t 7))] false) (.seq (.cond (.t 9) .skip (.exit 0)) (.seq (.blk 1 (.seq (.reg [o1 10 (.mv (.t 8)), o1 5 (.mv (.t 10))] false) (.seq (.reg [o1 11 (.mv (.t 1)), o1 12 (.mv (.t 0)), o1 13 (.mv (.t 5)), o1 14 (.ia 1 (.t 12) (.t 13)), o1 15 (.ld false 1 (.t 14)), o1 16 (.callv (.t 11) [(.t 15)])] false) (.cond (.t 16) (.seq (.reg [o1 17 (.mv (.t 5)), o1 4 (.mv (.t 17))] false) .ret) .skip)))) (.reg [o1 18 (.bin .add (.t 8) (cI 1)), o1 8 (.mv (.t 18))] false))))))) (.seq (.reg [o1 4 (.mv (cI (-1)))] false) .ret)))
theorem tr87 : tr Try.prog (Try.f87.body.getD .skip) = some c87 := by kernel_rfl
set_option maxHeartbeats 1000000
theorem mo : Try.prog.follows .mixedOrders = true := by rfl
def firstAt {α : Type} (p : α → Bool) : List α → Int → Int
  | [], _ => -1
  | x :: r, k => if p x then k else firstAt p r (k + 1)
theorem firstAt_at {α : Type} {p : α → Bool} : ∀ {a : List α} {i : Nat} {k : Int} (h : i < a.length), (∀ j x, j < i → a[j]? = some x → p x = false) → p a[i] = true → firstAt p a k = k + i
  | x :: r, 0, k, _, _, hp => by simp at hp; simp [firstAt, hp]
  | x :: r, i + 1, k, h, hn, hp => by
    have h0 : p x = false := hn 0 x (by omega) rfl
    rw [firstAt, h0]
    simp only [Bool.false_eq_true, if_false]
    rw [firstAt_at (a := r) (i := i) (k := k + 1) (by simpa using h) (fun j y hj hy => hn (j + 1) y (by omega) (by simpa using hy)) (by simpa using hp)]
    omega
theorem firstAt_none {α : Type} {p : α → Bool} : ∀ {a : List α} {k : Int}, (∀ (j : Nat) x, a[j]? = some x → p x = false) → firstAt p a k = -1
  | [], _, _ => rfl
  | x :: r, k, h => by
    rw [firstAt, h 0 x rfl]
    simp only [Bool.false_eq_true, if_false]
    exact firstAt_none (fun j y hy => h (j + 1) y (by simpa using hy))
theorem index_pure {f : Nat} {caps : List T} {p : Int → Bool} (h : ∀ x, Pure Try.prog f (i64 x :: caps) (.bool (p x))) (hc : caps.length < 30) (a : List Int) (ha : a.length ≤ 140737488355328) : Pure Try.prog 87 [ints a, .fn f caps] (i64 (firstAt p a 0)) := by
  refine walk_of mo Try.func87 tr87 (rs := [.tmp 4]) (by rfl) (by rfl) ?_
  unfold c87
  simp [ints]
  refine loop_up a.length (fun i => ⟨[(0, .t (ints a)), (1, .t (.fn f caps)), (7, .t (i64 a.length)), (8, .t (i64 i))], []⟩) (fun i => ∀ j x, j < i → a[j]? = some x → p x = false) same ?_ ?_ ?_
  · simp [ints]
  · simp
  · intro i hi hR
    by_cases hl : i < a.length
    · simp [ints, hl]
      refine call_t (ts := i64 a[i] :: caps) (.bool (p a[i])) (h _) (by simp; omega) ?_
      cases hp : p a[i] with
      | true => simp [firstAt_at hl hR hp]
      | false =>
        simp
        rw [wr_id (by omega) (by omega)]
        refine up_next same hl ?_ ?_
        · intro j x hj hx
          rcases Nat.lt_succ_iff_lt_or_eq.1 hj with h2 | h2
          · exact hR j x h2 hx
          · subst h2; rw [List.getElem?_eq_getElem hl] at hx; cases hx; exact hp
        · simp [ints]
    · simp [ints, hl]
      rw [firstAt_none (fun j x hx => hR j x (by have := (List.getElem?_eq_some_iff.1 hx).1; omega) hx)]
      simp
theorem kids1_pure (x : Int) : Pure Try.prog 86 [i64 x] (.bool (decide (x = -1))) := by
  refine walk_of mo Try.func86 tr86 (rs := [.tmp 2]) (by rfl) (by rfl) ?_
  unfold c86
  simp
theorem clone_nil : Pure Try.prog 54 [.nils] .nils := by
  refine walk_of mo Try.func54 tr54 (rs := [.tmp 2]) (by rfl) (by rfl) ?_
  unfold c54
  simp
theorem clone_emp : Pure Try.prog 54 [.emp] (.lst 1 []) := by
  refine walk_of mo Try.func54 tr54 (rs := [.tmp 2]) (by rfl) (by rfl) ?_
  unfold c54
  simp [retR_v, cut]
theorem clone_lst (e : List T) (r : List (List T)) (h : (e :: r).length * 8 ≤ 140737488355328) : Pure Try.prog 54 [.lst 1 (e :: r)] (.lst 1 (e :: r)) := by
  refine walk_of mo Try.func54 tr54 (rs := [.tmp 2]) (by rfl) (by rfl) ?_
  unfold c54
  simp
  refine req_intro h ?_
  simp [retR_v, cut]
theorem clone_pure (es : List (List T)) (h : es.length * 8 ≤ 140737488355328) : Pure Try.prog 54 [.lst 1 es] (.lst 1 es) := by
  cases es with
  | nil => exact pure_lst0 1 [] [] (clone_nil.le (.nil 1)) clone_emp
  | cons e r => exact clone_lst e r h
theorem clone_eff (d : Nat) (hd : d < far) (e : List T) (r : List (List T)) (h : (e :: r).length * 8 ≤ 140737488355328) : Eff Try.prog 54 [.t (.lst 1 (e :: r))] [] (.slc d 1 0 (e :: r).length) [(d, .row 3 1 (e :: r))] := by
  refine walk_eff mo Try.func54 tr54 (rs := [.tmp 2]) (by rfl) (by rfl) ?_
  unfold c54
  simp [parV]
  refine req_intro h ?_
  simp
  refine (retE_ret (to d 7) rfl (to_far hd) ?_ ?_ ?_ ?_ ?_).1 <;> simp [V.all, Ob.all, okN]

end Go.Eng
