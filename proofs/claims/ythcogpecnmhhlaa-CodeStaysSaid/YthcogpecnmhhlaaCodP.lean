/- What the program's functions 0 compute (numbers of this seat): contracts, walked by the engine. -/
import Derived.Test.YthcogpecnmhhlaaEngU
import Derived.Test.YthcogpecnmhhlaaCodO
import Derived.Test.YthcogpecnmhhlaaProg
namespace Go.Eng
open Go Go.Proofs
set_option maxRecDepth 100000
set_option linter.all false
def Cod.kidsAt (c : Cod) (i : Int) : List Int := match c.L[i.toNat]? with | .some n => n.kids | .none => []
def Cod.Ranged (c : Cod) : Prop := ∀ j (h : j < c.L.length), ∀ k ∈ c.L[j].kids, (j : Int) < k ∧ k < c.L.length
theorem kidsAt_ranged {c : Cod} (hr : c.Ranged) {i k : Int} (hi : 0 ≤ i) (h : k ∈ c.kidsAt i) : i < k ∧ k < c.L.length := by
  unfold Cod.kidsAt at h
  cases e : c.L[i.toNat]? with
  | none => rw [e] at h; cases h
  | some n =>
    rw [e] at h
    obtain ⟨a, b⟩ := List.getElem?_eq_some_iff.1 e
    have := hr i.toNat a k (by rw [b]; exact h)
    omega
theorem pre_succ (c : Cod) (f : Nat) (i : Int) : c.pre (f + 1) i = i :: c.forest f (c.kidsAt i) := by
  unfold Cod.pre Cod.kidsAt
  cases c.L[i.toNat]? <;> rfl
theorem forest_cons (c : Cod) (f : Nat) (i : Int) (l : List Int) : c.forest f (i :: l) = c.pre f i ++ c.forest f l := by simp [Cod.forest]
theorem forest_mem {c : Cod} (hr : c.Ranged) : ∀ (f : Nat), (∀ (i : Int), 0 ≤ i → i < c.L.length → ∀ x ∈ c.pre f i, i ≤ x ∧ x < c.L.length) ∧ (∀ (l : List Int), (∀ i ∈ l, 0 ≤ i ∧ i < c.L.length) → ∀ x ∈ c.forest f l, 0 ≤ x ∧ x < c.L.length ∧ ∃ i ∈ l, i ≤ x) := by
  intro f
  have step : (∀ (i : Int), 0 ≤ i → i < c.L.length → ∀ x ∈ c.pre f i, i ≤ x ∧ x < c.L.length) → (∀ (l : List Int), (∀ i ∈ l, 0 ≤ i ∧ i < c.L.length) → ∀ x ∈ c.forest f l, 0 ≤ x ∧ x < c.L.length ∧ ∃ i ∈ l, i ≤ x) := by
    intro h l hl x hx
    obtain ⟨i, hi, hx⟩ := List.mem_flatMap.1 hx
    obtain ⟨a, b⟩ := hl i hi
    obtain ⟨d, e⟩ := h i a b x hx
    exact ⟨by omega, e, i, hi, d⟩
  induction f with
  | zero => exact ⟨fun i _ _ x hx => by simp [Cod.pre] at hx, step fun i _ _ x hx => by simp [Cod.pre] at hx⟩
  | succ f ih =>
    have ih2 : (∀ (l : List Int), (∀ i ∈ l, 0 ≤ i ∧ i < c.L.length) → ∀ x ∈ c.forest f l, 0 ≤ x ∧ x < c.L.length ∧ ∃ i ∈ l, i ≤ x) := by
      intro l hl x hx
      obtain ⟨i, hi, hx⟩ := List.mem_flatMap.1 hx
      obtain ⟨a, b⟩ := hl i hi
      have hp : ∀ (i : Int), 0 ≤ i → i < c.L.length → ∀ x ∈ c.pre f i, i ≤ x ∧ x < c.L.length := by
        refine (ih ?_).1
        intro h l hl x hx
        obtain ⟨i, hi, hx⟩ := List.mem_flatMap.1 hx
        obtain ⟨a, b⟩ := hl i hi
        obtain ⟨d, e⟩ := h i a b x hx
        exact ⟨by omega, e, i, hi, d⟩
      obtain ⟨d, e⟩ := hp i a b x hx
      exact ⟨by omega, e, i, hi, d⟩
    have h1 : ∀ (i : Int), 0 ≤ i → i < c.L.length → ∀ x ∈ c.pre (f + 1) i, i ≤ x ∧ x < c.L.length := by
      intro i h0 hN x hx
      rw [pre_succ] at hx
      rcases List.mem_cons.1 hx with rfl | hx
      · exact ⟨by omega, hN⟩
      · obtain ⟨a, b, j, hj, hjx⟩ := ih2 (c.kidsAt i) (fun k hk => by have := kidsAt_ranged hr h0 hk; omega) x hx
        have := kidsAt_ranged hr h0 hj
        exact ⟨by omega, b⟩
    exact ⟨h1, step h1⟩
theorem count_flatMap (k : Int) (f : Int → List Int) : ∀ l : List Int, (l.flatMap f).count k = (l.map fun x => (f x).count k).sum
  | [] => rfl
  | a :: r => by simp [List.count_append, count_flatMap k f r]
theorem forest_count {c : Cod} (hr : c.Ranged) (k : Int) : ∀ (f : Nat) (l : List Int), (∀ i ∈ l, 0 ≤ i ∧ c.L.length ≤ i + f ∧ i < c.L.length) → (c.forest f l).count k = l.count k + ((c.forest f l).flatMap c.kidsAt).count k := by
  intro f
  induction f with
  | zero =>
    intro l hl
    cases l with
    | nil => simp [Cod.forest]
    | cons a r => have := hl a List.mem_cons_self; omega
  | succ f ih =>
    intro l
    induction l with
    | nil => intro _; simp [Cod.forest]
    | cons a r ihl =>
      intro hl
      have h1 := ihl (fun i hi => hl i (List.mem_cons_of_mem _ hi))
      have ha := hl a List.mem_cons_self
      have h2 := ih (c.kidsAt a) (fun k hk => by have := kidsAt_ranged hr ha.1 hk; omega)
      rw [forest_cons, pre_succ]
      simp only [List.cons_append, List.count_cons, List.count_append, List.flatMap_cons, List.flatMap_append]
      omega
theorem sum_zero : ∀ N : Nat, ((List.range N).map fun _ => 0).sum = 0
  | 0 => rfl
  | N + 1 => by rw [List.range_succ, List.map_append, List.sum_append, sum_zero N]; rfl
theorem sum_one {α : Type} : ∀ l : List α, (l.map fun _ => 1).sum = l.length
  | [] => rfl
  | a :: r => by rw [List.map_cons, List.sum_cons, sum_one r, List.length_cons]; omega
theorem sum_count {N : Nat} (φ : Nat → Nat) : ∀ (l : List Int), (∀ x ∈ l, 0 ≤ x ∧ x < N) → (l.map fun x => φ x.toNat).sum = ((List.range N).map fun j : Nat => l.count (j : Int) * φ j).sum
  | [], _ => by simpa using (sum_zero N).symm
  | a :: r, h => by
    have ih := sum_count φ r (fun x hx => h x (List.mem_cons_of_mem _ hx))
    obtain ⟨h0, h1⟩ := h a List.mem_cons_self
    have key : ∀ M : Nat, ((List.range M).map fun j : Nat => (a :: r).count (j : Int) * φ j).sum = ((List.range M).map fun j : Nat => r.count (j : Int) * φ j).sum + if a.toNat < M then φ a.toNat else 0 := by
      intro M
      induction M with
      | zero => simp
      | succ M ihM =>
        rw [List.range_succ, List.map_append, List.map_append, List.sum_append, List.sum_append, ihM]
        simp only [List.map_cons, List.map_nil, List.sum_cons, List.sum_nil, List.count_cons]
        by_cases e : a.toNat = M
        · have e2 : a = (M : Int) := by omega
          simp [e2, Nat.add_mul]; omega
        · have e2 : ¬ a = (M : Int) := by omega
          have e3 : (a.toNat < M + 1) = (a.toNat < M) := by apply propext; omega
          simp only [e3, beq_iff_eq, e2, if_false, Nat.add_zero]
          omega
    rw [key, if_pos (by omega), List.map_cons, List.sum_cons, ih]
    omega
theorem flatMap_range (c : Cod) (k : Int) : ((List.range c.L.length).map fun j : Nat => (c.kidsAt (j : Int)).count k).sum = (c.L.flatMap Nod.kids).count k := by
  have : ∀ l : List Nod, ((List.range l.length).map fun j => (match l[j]? with | .some n => n.kids | .none => ([] : List Int)).count k).sum = (l.flatMap Nod.kids).count k := by
    intro l
    induction l with
    | nil => rfl
    | cons a r ih =>
      rw [List.length_cons, List.range_succ_eq_map]
      simp only [List.map_cons, List.map_map, List.sum_cons, List.flatMap_cons, List.count_append, List.getElem?_cons_zero]
      rw [← ih]; rfl
  rw [← this]
  simp [Cod.kidsAt]
structure Cod.Tree (c : Cod) : Prop where
  ranged : c.Ranged
  body : ∀ b ∈ c.bodies, 0 ≤ b ∧ b < c.L.length
  once : ∀ k, k < c.L.length → (c.L.flatMap Nod.kids ++ c.bodies).count (k : Int) = 1
theorem may_tree {c : Cod} (h : c.may = 0) : c.Tree := by
  unfold Cod.may at h
  split at h
  · cases h
  split at h
  · cases h
  rename_i h2
  split at h
  · cases h
  rename_i h3
  split at h
  · cases h
  rename_i h4
  simp only [Bool.not_eq_false, List.all_eq_true, List.mem_range] at h2 h3
  refine ⟨fun j hj => ?_, fun b hb => ?_, fun k hk => ?_⟩
  · have := h2 j hj
    simp only [Cod.rightB, List.getElem?_eq_getElem hj] at this
    exact right_kids (by omega) this
  · obtain ⟨f, hf, rfl⟩ := List.mem_map.1 hb
    have := child_range (by omega) (h3 f hf)
    omega
  · have h5 : ∀ x ∈ tally c.L.length (c.L.flatMap Nod.kids ++ c.bodies), x = 1 := by
      intro x hx
      have := List.any_eq_false.1 (by simpa only [Bool.not_eq_true] using h4) x hx
      simpa using this
    have := h5 _ (List.getElem_mem (show k < _ by rw [tally_len]; exact hk))
    rw [tally_get hk] at this
    omega
def Cod.walk (c : Cod) : List Int := c.forest c.L.length c.bodies
theorem walk_mem {c : Cod} (t : c.Tree) : ∀ x ∈ c.walk, 0 ≤ x ∧ x < c.L.length := fun x hx => let ⟨a, b, _⟩ := (forest_mem t.ranged c.L.length).2 c.bodies t.body x hx; ⟨a, b⟩
theorem walk_once {c : Cod} (t : c.Tree) : ∀ k, k < c.L.length → c.walk.count (k : Int) = 1 := by
  intro k
  induction k using Nat.strongRecOn with
  | ind k ih =>
    intro hk
    have h1 := forest_count t.ranged (k : Int) c.L.length c.bodies (fun i hi => by have := t.body i hi; omega)
    rw [show c.forest c.L.length c.bodies = c.walk from rfl] at h1
    rw [h1, ← t.once k hk, List.count_append, Nat.add_comm]
    congr 1
    rw [count_flatMap, ← flatMap_range]
    have hm : (c.walk.map fun x => (c.kidsAt x).count (k : Int)) = c.walk.map fun x => (c.kidsAt ((x.toNat : Nat) : Int)).count (k : Int) := by
      refine List.map_congr_left fun x hx => ?_
      rw [show ((x.toNat : Nat) : Int) = x by have := walk_mem t x hx; omega]
    rw [hm, sum_count (fun j : Nat => (c.kidsAt (j : Int)).count (k : Int)) c.walk (walk_mem t)]
    congr 1
    refine List.map_congr_left fun j hj => ?_
    by_cases hjk : j < k
    · rw [ih j hjk (by simpa using hj), Nat.one_mul]
    · have : (c.kidsAt (j : Int)).count (k : Int) = 0 := List.count_eq_zero.2 fun hm => by have := kidsAt_ranged t.ranged (by omega) hm; omega
      rw [this, Nat.mul_zero]
theorem walk_len {c : Cod} (t : c.Tree) : c.walk.length = c.L.length := by
  have h := sum_count (fun _ => 1) c.walk (walk_mem t)
  have h1 : (c.walk.map fun _ => 1).sum = c.walk.length := sum_one _
  have h2 : ((List.range c.L.length).map fun j : Nat => c.walk.count (j : Int) * 1).sum = c.L.length := by
    rw [List.map_congr_left (g := fun _ => 1) (fun j hj => by rw [walk_once t j (by simpa using hj)])]
    rw [sum_one, List.length_range]
  rw [h1, h2] at h
  exact h

end Go.Eng
