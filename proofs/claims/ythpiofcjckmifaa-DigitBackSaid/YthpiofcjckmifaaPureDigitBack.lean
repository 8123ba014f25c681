/- digit.Parse undoes digit.Print, and what digit.Parse accepts is printed as it stood, for every number and text; there is no condition. -/
import Derived.Test.YthpiofcjckmifaaMDigitBackx1
import Derived.Test.YthpiofcjckmifaaDigitsMDigitBack
namespace Go.Proofs.Ythpiofcjckmifaa.Pure
open Go.RowKit Go.Proofs.Ythpiofcjckmifaa.MDigitBack Go.Proofs.YthpiofcjckmifaaW.PrintWords Go.Proofs.YthpiofcjckmifaaW.PrintLast Go.Proofs.Ythpiofcjckmifaa.Base Go.Proofs.Ythpiofcjckmifaa.DigitsMDigitBack

theorem works20 : gramaryelaw03_works.f 20 = some true := by decide +kernel

theorem ends (s : ByteArray) (hs : s.size ≤ 140737488351232) (d : Nat) : ∀ (k : Nat) (n i : Int), 0 ≤ i → (s.size : Int) - i ≤ d → d < k → ∃ r, digit_Parse.l0 k s n (s.size : Int) i = some r := by
  induction d with
  | zero =>
    intro k n i h0 hd hk
    obtain ⟨k, rfl⟩ : ∃ m, k = m + 1 := ⟨k - 1, by omega⟩
    simp only [digit_Parse.l0]; rw [if_neg (by omega)]
    split <;> exact ⟨_, rfl⟩
  | succ d ih =>
    intro k n i h0 hd hk
    obtain ⟨k, rfl⟩ : ∃ m, k = m + 1 := ⟨k - 1, by omega⟩
    simp only [digit_Parse.l0]
    by_cases h1 : i < (s.size : Int)
    · rw [if_pos h1, if_pos h0, if_pos h1]
      by_cases h3 : bt s i < 48
      · rw [if_pos h3]; exact ⟨_, rfl⟩
      · rw [if_neg h3]
        by_cases h4 : bt s i > 57
        · rw [if_pos h4]; exact ⟨_, rfl⟩
        · rw [if_neg h4, w64 (x := i + 1) (by omega) (by omega)]
          exact ih k _ (i + 1) (by omega) (by omega) (by omega)
    · rw [if_neg h1]; split <;> exact ⟨_, rfl⟩

theorem answers (s : ByteArray) (hs : s.size ≤ 140737488351232) : ∃ r, digit_Parse.f (s.size + 3) s = some r := by
  have hj : ∀ b, ∃ r, digit_Parse.j0 (s.size + 3) s b = some r := fun b => by
    simp only [digit_Parse.j0]
    cases b
    · exact ends s hs s.size (s.size + 2) 0 0 (by omega) (by omega) (by omega)
    · exact ⟨_, rfl⟩
  unfold digit_Parse.f
  by_cases h0 : (s.size : Int) = 0
  · rw [if_pos h0]; exact hj _
  · rw [if_neg h0]
    by_cases h1 : (s.size : Int) > 10
    · rw [if_pos h1]; exact hj _
    · rw [if_neg h1]
      by_cases h2 : (s.size : Int) > 1
      · rw [if_pos h2, if_pos (by omega)]; exact hj _
      · rw [if_neg h2]; exact hj _

theorem DigitBack : gramaryelaw03_DigitBack.Pure := by
  intro n s hn hs
  have hb : 0 ≤ n ∧ n ≤ 4294967295 := by simpa [Lit.wf, IntKind.min, IntKind.max, IntKind.signed, IntKind.bits] using hn
  have hk : wrap64 (n / 2) = n / 2 := w64 (by omega) (by omega)
  obtain ⟨t, ht, hp⟩ := parse_print (n / 2) (by omega) (by omega)
  obtain ⟨⟨a, e⟩, hr⟩ := answers s hs
  refine ⟨s.size + 3 + 20, ?_⟩
  have hr1 : digit_Parse.f (s.size + 3 + 20) s = some (a, e) := at_rounds (digit_Parse.mono s) (by omega) hr
  have hw : gramaryelaw03_works.f (s.size + 3 + 20) = some true := at_rounds gramaryelaw03_works.mono (by omega) works20
  unfold gramaryelaw03_DigitBack.f
  rw [hw, hk, ht]
  simp only [Option.bind_some, if_true]
  rw [hp _ (by omega), hr1]
  simp only [Option.bind_some, if_true]
  by_cases he : e = 0
  · subst he
    rw [if_pos rfl, print_parse s _ a hr1]
    simp
  · rw [if_neg he]

end Go.Proofs.Ythpiofcjckmifaa.Pure
