/- What the program's functions 106,97,62,94,70 compute (numbers of this seat): contracts, walked by the engine. -/
import Derived.Test.YthcogpecnmhhlaaEngU
import Derived.Test.YthcogpecnmhhlaaCodF
import Derived.Test.YthcogpecnmhhlaaProg
namespace Go.Eng
open Go Go.Proofs
set_option maxRecDepth 100000
set_option linter.all false
def c62 : Cd := (.seq (.reg [o1 4 (.mv (cI 0))] false) (.seq (.seq (.reg [o1 6 (.mv (.t 0)), o1 7 (.len (.t 6)), o1 8 (.mv (cI 0))] false) (.blk 0 (.loop (.seq (.reg [o1 9 (.bin .lss (.t 8) (.t 7))] false) (.seq (.cond (.t 9) .skip (.exit 0)) (.seq (.blk 1 (.seq (.reg [o1 10 (.mv (.t 8)), o1 5 (.mv (.t 10))] false) (.seq (.reg [o1 11 (.mv (.t 1)), o1 12 (.mv (.t 0)), o1 13 (.mv (.t 5)), o1 14 (.ia 4 (.t 12) (.t 13)), o1 15 (.ld true 4 (.t 14)), o1 16 (.callv (.t 11) [(.t 15)])] false) (.cond (.t 16) (.seq (.reg [o1 17 (.mv (.t 5)), o1 4 (.mv (.t 17))] false) .ret) .skip)))) (.reg [o1 18 (.bin .add (.t 8) (cI 1)), o1 8 (.mv (.t 18))] false))))))) (.seq (.reg [o1 4 (.mv (cI (-1)))] false) .ret)))
theorem tr62 : tr Try.prog (Try.f62.body.getD .skip) = some c62 := by kernel_rfl
def c70 : Cd := (.seq (.reg [o1 4 (.mv (.c (.bool false)))] false) (.seq (.reg [o1 5 (.mv (.t 0)), o1 6 (.mv (.t 1)), o1 7 (.call 94 [(.t 5), (.t 6)]), o1 8 (.bin .geq (.t 7) (cI 0)), o1 4 (.mv (.t 8))] false) .ret))
theorem tr70 : tr Try.prog (Try.f70.body.getD .skip) = some c70 := by kernel_rfl
def c94 : Cd := (.seq (.reg [o1 4 (.mv (cI 0))] false) (.seq (.seq (.reg [o1 6 (.mv (.t 0)), o1 7 (.len (.t 6)), o1 8 (.mv (cI 0))] false) (.blk 0 (.loop (.seq (.reg [o1 9 (.bin .lss (.t 8) (.t 7))] false) (.seq (.cond (.t 9) .skip (.exit 0)) (.seq (.blk 1 (.seq (.reg [o1 10 (.mv (.t 8)), o1 5 (.mv (.t 10))] false) (.seq (.reg [o1 11 (.mv (.t 1)), o1 12 (.mv (.t 0)), o1 13 (.mv (.t 5)), o1 14 (.ia 2 (.t 12) (.t 13)), o1 15 (.ld true 2 (.t 14)), o1 16 (.callv (.t 11) [(.t 15)])] false) (.cond (.t 16) (.seq (.reg [o1 17 (.mv (.t 5)), o1 4 (.mv (.t 17))] false) .ret) .skip)))) (.reg [o1 18 (.bin .add (.t 8) (cI 1)), o1 8 (.mv (.t 18))] false))))))) (.seq (.reg [o1 4 (.mv (cI (-1)))] false) .ret)))
theorem tr94 : tr Try.prog (Try.f94.body.getD .skip) = some c94 := by kernel_rfl
def c97 : Cd := (.seq (.reg [o1 4 (.mv (.c (.bool false)))] false) (.seq (.reg [o1 5 (.mv (.t 0)), o1 6 (.mv (.t 1)), o1 7 (.call 106 [(.t 5), (.t 6)]), o1 8 (.bin .geq (.t 7) (cI 0)), o1 4 (.mv (.t 8))] false) .ret))
theorem tr97 : tr Try.prog (Try.f97.body.getD .skip) = some c97 := by kernel_rfl
def c106 : Cd := (.seq (.reg [o1 4 (.mv (cI 0))] false) (.seq (.seq (.reg [o1 6 (.mv (.t 0)), o1 7 (.len (.t 6)), o1 8 (.mv (cI 0))] false) (.blk 0 (.loop (.seq (.reg [o1 9 (.bin .lss (.t 8) (.t 7))] false) (.seq (.cond (.t 9) .skip (.exit 0)) (.seq (.blk 1 (.seq (.reg [o1 10 (.mv (.t 8)), o1 5 (.mv (.t 10))] false) (.seq (.reg [o1 11 (.mv (.t 1)), o1 12 (.mv (.t 0)), o1 13 (.mv (.t 5)), o1 14 (.ia 2 (.t 12) (.t 13)), o1 15 (.ld true 2 (.t 14)), o1 16 (.callv (.t 11) [(.t 15)])] false) (.cond (.t 16) (.seq (.reg [o1 17 (.mv (.t 5)), o1 4 (.mv (.t 17))] false) .ret) .skip)))) (.reg [o1 18 (.bin .add (.t 8) (cI 1)), o1 8 (.mv (.t 18))] false))))))) (.seq (.reg [o1 4 (.mv (cI (-1)))] false) .ret)))
theorem tr106 : tr Try.prog (Try.f106.body.getD .skip) = some c106 := by kernel_rfl
set_option maxHeartbeats 1000000
theorem index106_pure {X : Type} {enc : X → List T} (hz : ∀ x, (enc x).length = 2) {f : Nat} {caps : List T} {p : X → Bool} (a : List X) (h : ∀ x ∈ a, Pure Try.prog f (.agg (enc x) :: caps) (.bool (p x))) (hc : caps.length < 30) (ha : a.length ≤ 140737488355328) : Pure Try.prog 106 [.lst 2 (a.map enc), .fn f caps] (i64 (firstAt p a 0)) := by
  refine walk_of mo Try.func106 tr106 (rs := [.tmp 4]) (by rfl) (by rfl) ?_
  unfold c106
  simp
  refine loop_up a.length (fun i => ⟨[(0, .t (.lst 2 (a.map enc))), (1, .t (.fn f caps)), (7, .t (i64 a.length)), (8, .t (i64 i))], []⟩) (fun i => ∀ j x, j < i → a[j]? = some x → p x = false) same ?_ ?_ ?_
  · simp
  · simp
  · intro i hi hR
    by_cases hl : i < a.length
    · have hcut : cut (enc a[i]) 0 2 = enc a[i] := by simp [cut, List.take_of_length_le, hz]
      simp [hl, hz, hcut]
      refine call_t (ts := .agg (enc a[i]) :: caps) (.bool (p a[i])) (h _ (List.getElem_mem hl)) (by simp; omega) ?_
      cases hp : p a[i] with
      | true => simp [firstAt_at hl hR hp]
      | false =>
        simp
        rw [wr_id (by omega) (by omega)]
        refine up_next same hl ?_ ?_
        · intro j x hj hx
          rcases Nat.lt_succ_iff_lt_or_eq.1 hj with h2 | h2
          · exact hR j x h2 hx
          · subst h2; rw [List.getElem?_eq_getElem hl] at hx; cases hx; exact hp
        · simp
    · simp [hl]
      rw [firstAt_none (fun j x hx => hR j x (by have := (List.getElem?_eq_some_iff.1 hx).1; omega) hx)]
      simp
theorem contains97_pure {X : Type} {enc : X → List T} (hz : ∀ x, (enc x).length = 2) {f : Nat} {caps : List T} {p : X → Bool} (a : List X) (h : ∀ x ∈ a, Pure Try.prog f (.agg (enc x) :: caps) (.bool (p x))) (hc : caps.length < 30) (ha : a.length ≤ 140737488355328) : Pure Try.prog 97 [.lst 2 (a.map enc), .fn f caps] (.bool (a.any p)) := by
  refine walk_of mo Try.func97 tr97 (rs := [.tmp 4]) (by rfl) (by rfl) ?_
  unfold c97
  simp
  refine call_t (ts := [.lst 2 (a.map enc), .fn f caps]) (i64 (firstAt p a 0)) (index106_pure hz a h hc ha) (by simp) ?_
  rcases firstAt_spec (p := p) (a := a) (k := 0) with ⟨h1, h2⟩ | ⟨i0, hi0, h1, h2, h3⟩
  · have : a.any p = false := List.any_eq_false.2 fun x hx => by simp [h2 x hx]
    simp [h1, this]
  · have : a.any p = true := List.any_eq_true.2 ⟨_, List.getElem_mem hi0, h2⟩
    simp [h1, this]
theorem index62_pure {X : Type} {enc : X → List T} (hz : ∀ x, (enc x).length = 4) {f : Nat} {caps : List T} {p : X → Bool} (a : List X) (h : ∀ x ∈ a, Pure Try.prog f (.agg (enc x) :: caps) (.bool (p x))) (hc : caps.length < 30) (ha : a.length ≤ 140737488355328) : Pure Try.prog 62 [.lst 4 (a.map enc), .fn f caps] (i64 (firstAt p a 0)) := by
  refine walk_of mo Try.func62 tr62 (rs := [.tmp 4]) (by rfl) (by rfl) ?_
  unfold c62
  simp
  refine loop_up a.length (fun i => ⟨[(0, .t (.lst 4 (a.map enc))), (1, .t (.fn f caps)), (7, .t (i64 a.length)), (8, .t (i64 i))], []⟩) (fun i => ∀ j x, j < i → a[j]? = some x → p x = false) same ?_ ?_ ?_
  · simp
  · simp
  · intro i hi hR
    by_cases hl : i < a.length
    · have hcut : cut (enc a[i]) 0 4 = enc a[i] := by simp [cut, List.take_of_length_le, hz]
      simp [hl, hz, hcut]
      refine call_t (ts := .agg (enc a[i]) :: caps) (.bool (p a[i])) (h _ (List.getElem_mem hl)) (by simp; omega) ?_
      cases hp : p a[i] with
      | true => simp [firstAt_at hl hR hp]
      | false =>
        simp
        rw [wr_id (by omega) (by omega)]
        refine up_next same hl ?_ ?_
        · intro j x hj hx
          rcases Nat.lt_succ_iff_lt_or_eq.1 hj with h2 | h2
          · exact hR j x h2 hx
          · subst h2; rw [List.getElem?_eq_getElem hl] at hx; cases hx; exact hp
        · simp
    · simp [hl]
      rw [firstAt_none (fun j x hx => hR j x (by have := (List.getElem?_eq_some_iff.1 hx).1; omega) hx)]
      simp
theorem index94_pure {X : Type} {enc : X → List T} (hz : ∀ x, (enc x).length = 2) {f : Nat} {caps : List T} {p : X → Bool} (a : List X) (h : ∀ x ∈ a, Pure Try.prog f (.agg (enc x) :: caps) (.bool (p x))) (hc : caps.length < 30) (ha : a.length ≤ 140737488355328) : Pure Try.prog 94 [.lst 2 (a.map enc), .fn f caps] (i64 (firstAt p a 0)) := by
  refine walk_of mo Try.func94 tr94 (rs := [.tmp 4]) (by rfl) (by rfl) ?_
  unfold c94
  simp
  refine loop_up a.length (fun i => ⟨[(0, .t (.lst 2 (a.map enc))), (1, .t (.fn f caps)), (7, .t (i64 a.length)), (8, .t (i64 i))], []⟩) (fun i => ∀ j x, j < i → a[j]? = some x → p x = false) same ?_ ?_ ?_
  · simp
  · simp
  · intro i hi hR
    by_cases hl : i < a.length
    · have hcut : cut (enc a[i]) 0 2 = enc a[i] := by simp [cut, List.take_of_length_le, hz]
      simp [hl, hz, hcut]
      refine call_t (ts := .agg (enc a[i]) :: caps) (.bool (p a[i])) (h _ (List.getElem_mem hl)) (by simp; omega) ?_
      cases hp : p a[i] with
      | true => simp [firstAt_at hl hR hp]
      | false =>
        simp
        rw [wr_id (by omega) (by omega)]
        refine up_next same hl ?_ ?_
        · intro j x hj hx
          rcases Nat.lt_succ_iff_lt_or_eq.1 hj with h2 | h2
          · exact hR j x h2 hx
          · subst h2; rw [List.getElem?_eq_getElem hl] at hx; cases hx; exact hp
        · simp
    · simp [hl]
      rw [firstAt_none (fun j x hx => hR j x (by have := (List.getElem?_eq_some_iff.1 hx).1; omega) hx)]
      simp
theorem contains70_pure {X : Type} {enc : X → List T} (hz : ∀ x, (enc x).length = 2) {f : Nat} {caps : List T} {p : X → Bool} (a : List X) (h : ∀ x ∈ a, Pure Try.prog f (.agg (enc x) :: caps) (.bool (p x))) (hc : caps.length < 30) (ha : a.length ≤ 140737488355328) : Pure Try.prog 70 [.lst 2 (a.map enc), .fn f caps] (.bool (a.any p)) := by
  refine walk_of mo Try.func70 tr70 (rs := [.tmp 4]) (by rfl) (by rfl) ?_
  unfold c70
  simp
  refine call_t (ts := [.lst 2 (a.map enc), .fn f caps]) (i64 (firstAt p a 0)) (index94_pure hz a h hc ha) (by simp) ?_
  rcases firstAt_spec (p := p) (a := a) (k := 0) with ⟨h1, h2⟩ | ⟨i0, hi0, h1, h2, h3⟩
  · have : a.any p = false := List.any_eq_false.2 fun x hx => by simp [h2 x hx]
    simp [h1, this]
  · have : a.any p = true := List.any_eq_true.2 ⟨_, List.getElem_mem hi0, h2⟩
    simp [h1, this]

end Go.Eng
