/-  -/
import Derived.Test.YtmpdilifoblnaaaZReachWaysWWords
import Derived.Test.YtmpdilifoblnaaaZReachWaysWMore
namespace Go.Proofs.Ytmpdilifoblnaaa.Fun
open Go.RowKit Go.Proofs.YtmpdilifoblnaaaW.PrintWords
def firstAt {α : Type} (p : α → Bool) (l : List α) : Int := match l.findIdx? p with | some i => (i : Int) | none => -1
theorem firstAt_hit {α : Type} {p : α → Bool} {l : List α} {i : Nat} (hi : i < l.length) (h : ∀ j, (hj : j < i) → p (l[j]'(by omega)) = false) (hp : p l[i] = true) : firstAt p l = (i : Int) := by
  unfold firstAt
  have : l.findIdx? p = some i := by
    rw [List.findIdx?_eq_some_iff_getElem]
    exact ⟨hi, hp, fun j hj => by simpa using h j hj⟩
  rw [this]
theorem firstAt_miss {α : Type} {p : α → Bool} {l : List α} (h : ∀ j, (hj : j < l.length) → p l[j] = false) : firstAt p l = -1 := by
  unfold firstAt
  have : l.findIdx? p = none := by
    rw [List.findIdx?_eq_none_iff]
    intro x hx
    obtain ⟨j, hj, rfl⟩ := List.getElem_of_mem hx
    exact h j hj
  rw [this]
theorem firstAt_any {α : Type} (p : α → Bool) (l : List α) : decide (firstAt p l ≥ 0) = l.any p := by
  unfold firstAt
  cases h : l.findIdx? p with
  | none =>
    rw [List.findIdx?_eq_none_iff] at h
    have : l.any p = false := by rw [List.any_eq_false]; intro x hx; simp [h x hx]
    rw [this]; rfl
  | some i =>
    rw [List.findIdx?_eq_some_iff_getElem] at h
    obtain ⟨hi, hp, _⟩ := h
    have : l.any p = true := List.any_eq_true.2 ⟨_, List.getElem_mem hi, hp⟩
    rw [this]; simp
def PredK {α : Type} (P : Program) (st : Bool) (K : Kd α) (g : Nat) (lb : Array Value) (p : α → Bool) (ok : α → Prop) (w : World) : Prop :=
  ∀ (W : World) (x : α) (cs : List Value), Below w.heap.size w W → K.K W x cs → ok x → Calls P g (#[if st then .agg cs.toArray else cs.headD undef] ++ lb) W fun e w' => e = .returned (.bool (p x)) ∧ Below W.heap.size W w'
end Go.Proofs.Ytmpdilifoblnaaa.Fun
