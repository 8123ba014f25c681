/-
What name.Name tells, and the document's Name: the same.
-/
import Derived.Test.YthpiofcjckmifaaDoorMWordBackx
import Derived.Test.YthpiofcjckmifaaDoorBase
import Derived.Test.YthpiofcjckmifaaDoorWordIsMWordBack
namespace Go.Proofs.YthpiofcjckmifaaDoor.WordNameMWordBack
open Go.RowKit Go.Proofs.YthpiofcjckmifaaDoor.MWordBack Go.Proofs.YthpiofcjckmifaaDoorW.PrintWords Go.Proofs.YthpiofcjckmifaaDoorW.PrintLast Go.Proofs.YthpiofcjckmifaaDoorW.PrintMore Go.Proofs.YthpiofcjckmifaaDoor.Base Go.Proofs.YthpiofcjckmifaaDoor.Glob Go.Proofs.YthpiofcjckmifaaDoor.WordIsMWordBack

def okB (c : Int) : Bool := name_smallB c || name_restB c
theorem letters_loop (s : ByteArray) (hs : s.size ≤ 140737488351232) (d : Nat) : ∀ (k : Nat) (i : Int), 0 ≤ i → (s.size : Int) - i = d → d < k →
    gramaryeref02_letters.l0 k s 97 i = some (if i = 0 ∧ 0 < d then name_smallB (bt s 0) && allFrom okB s d i else allFrom okB s d i) := by
  induction d with
  | zero =>
    intro k i h0 hd hk
    obtain ⟨k, rfl⟩ : ∃ m, k = m + 1 := ⟨k - 1, by omega⟩
    simp only [gramaryeref02_letters.l0]; rw [if_neg (by omega), if_neg (by omega)]; rfl
  | succ d ih =>
    intro k i h0 hd hk
    obtain ⟨k, rfl⟩ : ∃ m, k = m + 1 := ⟨k - 1, by omega⟩
    have h := ih k (i + 1) (by omega) (by omega) (by omega)
    rw [if_neg (by omega)] at h
    simp only [gramaryeref02_letters.l0]
    rw [if_pos (by omega), if_pos h0, w64 (x := i + 1) (by omega) (by omega), h, allFrom]
    have e97 : ((97 : Int) + 25) % 256 = 122 := rfl
    rw [e97]
    by_cases hi : i = 0
    · subst hi
      rw [if_pos (show (0 : Int) = 0 ∧ 0 < d + 1 from ⟨rfl, by omega⟩)]
      simp only [if_true]
      have : name_smallB (bt s 0) = decide (97 ≤ bt s 0 ∧ bt s 0 ≤ 122) := rfl
      unfold okB
      by_cases h1 : 97 ≤ bt s 0 <;> by_cases h2 : bt s 0 ≤ 122 <;> simp [h1, h2, this]
    · rw [if_neg (show ¬ (i = 0 ∧ 0 < d + 1) from fun h => hi h.1)]
      simp only [if_neg hi]
      have e1 : okB (bt s i) = decide ((97 ≤ bt s i ∧ bt s i ≤ 122) ∨ bt s i = 95 ∨ (48 ≤ bt s i ∧ bt s i ≤ 57)) := by
        unfold okB name_smallB name_restB
        rw [← Bool.decide_or]
      rw [e1]
      by_cases h1 : 97 ≤ bt s i <;> by_cases h2 : bt s i ≤ 122 <;> by_cases h3 : bt s i = 95 <;> by_cases h4 : bt s i < 48 <;> by_cases h5 : bt s i > 57 <;>
        first
        | omega
        | (rw [decide_eq_true (by omega)]; simp [h1, h2, h3, h4, h5])
        | (rw [decide_eq_false (by omega)]; simp [h1, h2, h3, h4, h5])

def nameB (s : ByteArray) : Bool := name_speltB name_smallB s && !(keyL.any fun t => t.toList == s.toList)
theorem name_is (s : ByteArray) : name_Name.f s = some (nameB s) := rfl
theorem spelt_is (s : ByteArray) : name_speltB name_smallB s = (decide (1 ≤ s.size ∧ s.size ≤ 20) && (name_smallB (bt s 0) && allFrom okB s s.size 0)) := by
  unfold name_speltB
  rw [allFrom_range]
  simp [okB]

theorem keys_is (s : ByteArray) : gramaryeref02_Keyword.f s = some (keyL.any fun t => t.toList == s.toList) := by
  have e : (keyL.any fun t => t.toList == s.toList) = (([103, 114, 97, 109, 109, 97, 114] : List UInt8) == s.toList || (([108, 111, 111, 107] : List UInt8) == s.toList || (([115, 121, 110, 99] : List UInt8) == s.toList || ([116, 111, 107, 101, 110] : List UInt8) == s.toList))) := by
    unfold keyL
    simp only [List.any_cons, List.any_nil, tl, Bool.or_false]
  rw [e]
  unfold gramaryeref02_Keyword.f
  have sw : ∀ l : List UInt8, (l == s.toList) = decide (s.toList = l) := fun l => by
    by_cases h : s.toList = l
    · simp [h]
    · rw [decide_eq_false h]; exact beq_eq_false_iff_ne.2 (fun h' => h h'.symm)
  rw [sw, sw, sw, sw]
  by_cases h1 : s.toList = [103, 114, 97, 109, 109, 97, 114]
  · rw [if_pos h1, decide_eq_true h1]; rfl
  · rw [if_neg h1, decide_eq_false h1]
    by_cases h2 : s.toList = [108, 111, 111, 107]
    · rw [if_pos h2, decide_eq_true h2]; rfl
    · rw [if_neg h2, decide_eq_false h2]
      by_cases h3 : s.toList = [115, 121, 110, 99]
      · rw [if_pos h3, decide_eq_true h3]; rfl
      · rw [if_neg h3, decide_eq_false h3]
        simp [Bool.beq_eq_decide_eq]

theorem ref_name_is (s : ByteArray) (hs : s.size ≤ 140737488351232) (k : Nat) (hk : s.size + 3 ≤ k) : gramaryeref02_Name.f k s = some (nameB s) := by
  obtain ⟨k, rfl⟩ : ∃ m, k = m + 1 := ⟨k - 1, by omega⟩
  have hl : gramaryeref02_letters.f (k + 1) s 97 = some (name_speltB name_smallB s) := by
    rw [spelt_is]
    unfold gramaryeref02_letters.f
    by_cases h0 : (s.size : Int) < 1
    · rw [if_pos h0, decide_eq_false (by omega)]; simp [gramaryeref02_letters.j0]
    · rw [if_neg h0]
      by_cases h1 : (s.size : Int) > 20
      · rw [decide_eq_true h1, decide_eq_false (by omega)]; simp [gramaryeref02_letters.j0]
      · rw [decide_eq_false h1, decide_eq_true (by omega)]
        simp only [gramaryeref02_letters.j0]
        rw [if_neg (by simp), letters_loop s hs s.size k 0 (by omega) (by omega) (by omega), if_pos (by omega)]
        simp
  unfold gramaryeref02_Name.f gramaryeref02_Word.f nameB
  rw [hl, keys_is]
  simp only [Option.bind_some]
  cases name_speltB name_smallB s <;> simp

end Go.Proofs.YthpiofcjckmifaaDoor.WordNameMWordBack
