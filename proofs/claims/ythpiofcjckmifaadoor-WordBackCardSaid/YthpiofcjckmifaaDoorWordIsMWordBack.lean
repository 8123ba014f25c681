/-
What word.Is tells: a plain test of a text.
-/
import Derived.Test.YthpiofcjckmifaaDoorMWordBackx
import Derived.Test.YthpiofcjckmifaaDoorBase
namespace Go.Proofs.YthpiofcjckmifaaDoor.WordIsMWordBack
open Go.RowKit Go.Proofs.YthpiofcjckmifaaDoor.MWordBack Go.Proofs.YthpiofcjckmifaaDoorW.PrintWords Go.Proofs.YthpiofcjckmifaaDoorW.PrintLast Go.Proofs.YthpiofcjckmifaaDoorW.PrintMore Go.Proofs.YthpiofcjckmifaaDoor.Base Go.Proofs.YthpiofcjckmifaaDoor.Glob

def letterB (c : Int) : Bool := decide ((97 ≤ c ∧ c ≤ 122) ∨ (65 ≤ c ∧ c ≤ 90) ∨ c = 95)
def numB (c : Int) : Bool := decide (48 ≤ c ∧ c ≤ 57)
theorem letter_is (c : Int) : word_letter.f c = some (letterB c) := by
  unfold word_letter.f letterB
  by_cases h1 : 97 ≤ c <;> by_cases h2 : c ≤ 122 <;> by_cases h3 : 65 ≤ c <;> by_cases h4 : c ≤ 90 <;> simp [h1, h2, h3, h4] <;> (by_cases h5 : c = 95 <;> simp [h5])

/-- A test of all bytes from a place on. -/
def allFrom (q : Int → Bool) (s : ByteArray) : Nat → Int → Bool
  | 0, _ => true
  | d + 1, i => q (bt s i) && allFrom q s d (i + 1)
theorem allFrom_range (q : Int → Bool) (s : ByteArray) : ∀ (d : Nat) (i : Int), allFrom q s d i = (List.range d).all fun j => q (bt s (i + (j : Nat)))
  | 0, _ => rfl
  | d + 1, i => by
    rw [allFrom, allFrom_range q s d, List.range_succ_eq_map, List.all_cons, List.all_map]
    congr 1
    · simp
    · congr 1
      funext j
      simp only [Function.comp]
      congr 2
      omega

theorem is_loop (s : ByteArray) (hs : s.size ≤ 140737488351232) (d : Nat) : ∀ (k : Nat) (i : Int), 0 ≤ i → (s.size : Int) - i = d → d < k →
    word_Is.l0 k s (s.size : Int) i = some (allFrom (fun c => letterB c || numB c) s d i) := by
  induction d with
  | zero =>
    intro k i h0 hd hk
    obtain ⟨k, rfl⟩ : ∃ m, k = m + 1 := ⟨k - 1, by omega⟩
    simp only [word_Is.l0]; rw [if_neg (by omega)]; rfl
  | succ d ih =>
    intro k i h0 hd hk
    obtain ⟨k, rfl⟩ : ∃ m, k = m + 1 := ⟨k - 1, by omega⟩
    simp only [word_Is.l0]
    rw [if_pos (by omega), if_pos h0, if_pos (by omega), letter_is, w64 (x := i + 1) (by omega) (by omega), ih k (i + 1) (by omega) (by omega) (by omega), allFrom]
    simp only [Option.bind_some]
    cases letterB (bt s i) with
    | true => simp
    | false =>
      unfold numB
      by_cases h1 : bt s i < 48
      · have : ¬ (48 ≤ bt s i ∧ bt s i ≤ 57) := by omega
        simp [h1, this]
      · by_cases h2 : bt s i > 57
        · have : ¬ (48 ≤ bt s i ∧ bt s i ≤ 57) := by omega
          simp [h1, h2, this]
        · have : 48 ≤ bt s i ∧ bt s i ≤ 57 := by omega
          simp [h1, h2, this]

def resvB (s : ByteArray) : Bool := resvL.any fun t => t.toList == s.toList
def isB (s : ByteArray) : Bool := decide (1 ≤ s.size ∧ s.size ≤ 40) && (letterB (bt s 0) && (!resvB s && allFrom (fun c => letterB c || numB c) s s.size 0))
theorem empty_iff (s : ByteArray) : (s.toList = ([] : List UInt8)) ↔ s.size = 0 := by
  rw [tl, ← dlen]
  generalize s.data.toList = l
  cases l with
  | nil => simp
  | cons x l => simp
theorem is_is (s : ByteArray) (hs : s.size ≤ 140737488351232) (k : Nat) (hk : s.size + 3 ≤ k) : word_Is.f k s = some (isB s) := by
  obtain ⟨k, rfl⟩ : ∃ m, k = m + 1 := ⟨k - 1, by omega⟩
  unfold word_Is.f isB
  by_cases h0 : s.size = 0
  · rw [if_pos ((empty_iff s).2 h0)]; simp [word_Is.j0, h0]
  · rw [if_neg (fun h => h0 ((empty_iff s).1 h))]
    by_cases h1 : (s.size : Int) > 40
    · rw [if_pos h1, decide_eq_false (by omega)]; simp [word_Is.j0]
    · rw [if_neg h1, if_pos (by omega), letter_is, decide_eq_true (by omega)]
      simp only [Option.bind_some, Bool.true_and]
      cases letterB (bt s 0) with
      | false => simp [word_Is.j0]
      | true =>
        have e : word_Reserved.f s = some (resvB s) := rfl
        rw [e]
        simp only [if_true, Option.bind_some, Bool.true_and, word_Is.j0]
        cases resvB s with
        | true => rfl
        | false =>
          rw [if_neg (by simp), is_loop s hs s.size k 0 (by omega) (by omega) (by omega)]
          simp

end Go.Proofs.YthpiofcjckmifaaDoor.WordIsMWordBack
