/- digit.Parse and the document's Parse answer the same for every text; there is no condition. -/
import Derived.Test.YthpiofcjckmifaaMDigitParsesx2
import Derived.Test.YthpiofcjckmifaaBase
namespace Go.Proofs.Ythpiofcjckmifaa.Pure
open Go.RowKit Go.Proofs.Ythpiofcjckmifaa.MDigitParses Go.Proofs.YthpiofcjckmifaaW.PrintWords Go.Proofs.YthpiofcjckmifaaW.PrintLast Go.Proofs.Ythpiofcjckmifaa.Base

/-- What the document's Parse makes of Whole's answer. -/
def post (b : Int × Bool) : Option (Int × Int) := if b.2 = true then (if b.1 > 2147483647 then some (0, 5) else some (b.1, 0)) else some (0, 5)

theorem loops (s : ByteArray) : ∀ (k : Nat) (n i : Int), digit_Parse.l0 k s n (s.size : Int) i = (gramaryebase_Whole.l0 k s n i).bind post
  | 0, _, _ => rfl
  | k + 1, n, i => by
    simp only [digit_Parse.l0, gramaryebase_Whole.l0]
    rw [Int.mul_comm n 10, loops s k]
    by_cases h1 : i < (s.size : Int)
    · rw [if_pos h1, if_pos h1]
      by_cases h2 : 0 ≤ i
      · rw [if_pos h2, if_pos h1, if_pos h2]
        by_cases h3 : bt s i < 48
        · rw [if_pos h3, if_pos h3]; rfl
        · rw [if_neg h3, if_neg h3]
          by_cases h4 : bt s i > 57
          · rw [if_pos h4, if_pos h4]; rfl
          · rw [if_neg h4, if_neg h4]
      · rw [if_neg h2, if_pos h1, if_neg h2]; rfl
    · rw [if_neg h1, if_neg h1]
      simp [post]

theorem jumps (s : ByteArray) (k : Nat) (b : Bool) : digit_Parse.j0 (k + 1) s b = (gramaryebase_Whole.j0 (k + 1) s b).bind post := by
  simp only [digit_Parse.j0, gramaryebase_Whole.j0]
  cases b
  · exact loops s k 0 0
  · rfl

theorem ends (s : ByteArray) (hs : s.size ≤ 140737488351232) (d : Nat) : ∀ (k : Nat) (n i : Int), 0 ≤ i → (s.size : Int) - i ≤ d → d < k → ∃ r, gramaryebase_Whole.l0 k s n i = some r := by
  induction d with
  | zero =>
    intro k n i h0 hd hk
    obtain ⟨k, rfl⟩ : ∃ m, k = m + 1 := ⟨k - 1, by omega⟩
    exact ⟨_, by simp only [gramaryebase_Whole.l0]; rw [if_neg (by omega)]⟩
  | succ d ih =>
    intro k n i h0 hd hk
    obtain ⟨k, rfl⟩ : ∃ m, k = m + 1 := ⟨k - 1, by omega⟩
    simp only [gramaryebase_Whole.l0]
    by_cases h1 : i < (s.size : Int)
    · rw [if_pos h1, if_pos h0]
      by_cases h3 : bt s i < 48
      · rw [if_pos h3]; exact ⟨_, rfl⟩
      · rw [if_neg h3]
        by_cases h4 : bt s i > 57
        · rw [if_pos h4]; exact ⟨_, rfl⟩
        · rw [if_neg h4, w64 (x := i + 1) (by omega) (by omega)]
          exact ih k _ (i + 1) (by omega) (by omega) (by omega)
    · rw [if_neg h1]; exact ⟨_, rfl⟩

theorem jend (s : ByteArray) (hs : s.size ≤ 140737488351232) (b : Bool) : ∃ r, gramaryebase_Whole.j0 (s.size + 3) s b = some r := by
  simp only [gramaryebase_Whole.j0]
  cases b
  · exact ends s hs s.size (s.size + 2) 0 0 (by omega) (by omega) (by omega)
  · exact ⟨_, rfl⟩

theorem empty_iff (s : ByteArray) : (s.toList = ([] : List UInt8)) ↔ (s.size : Int) = 0 := by
  rw [tl, ← dlen]
  generalize s.data.toList = l
  cases l with
  | nil => simp
  | cons x l => simp; omega

theorem parses (s : ByteArray) (k : Nat) : digit_Parse.f (k + 1) s = gramaryeref03_Parse.f (k + 1) s := by
  have hp : (fun bt101 : Int × Bool => (if bt101.2 = true then (if bt101.1 > 2147483647 then (some (0, 5)) else (some (bt101.1, 0))) else (some (0, 5)) : Option (Int × Int))) = post := rfl
  unfold digit_Parse.f gramaryeref03_Parse.f gramaryebase_Whole.f
  rw [hp]
  by_cases h0 : (s.size : Int) = 0
  · rw [if_pos h0, if_pos ((empty_iff s).2 h0)]; exact jumps s k _
  · rw [if_neg h0, if_neg (fun h => h0 ((empty_iff s).1 h))]
    by_cases h1 : (s.size : Int) > 10
    · rw [if_pos h1, if_pos h1]; exact jumps s k _
    · rw [if_neg h1, if_neg h1]
      by_cases h2 : (s.size : Int) > 1
      · rw [if_pos h2, if_pos h2, if_pos (by omega), if_pos (by omega)]; exact jumps s k _
      · rw [if_neg h2, if_neg h2]; exact jumps s k _

theorem answers (s : ByteArray) (hs : s.size ≤ 140737488351232) : ∃ r, digit_Parse.f (s.size + 3) s = some r := by
  have hj : ∀ b, ∃ r, digit_Parse.j0 (s.size + 3) s b = some r := fun b => by
    obtain ⟨r, hr⟩ := jend s hs b
    have h := jumps s (s.size + 2) b
    rw [hr] at h
    rw [h]
    simp only [Option.bind_some, post]
    split
    · split <;> exact ⟨_, rfl⟩
    · exact ⟨_, rfl⟩
  unfold digit_Parse.f
  by_cases h0 : (s.size : Int) = 0
  · rw [if_pos h0]; exact hj _
  · rw [if_neg h0]
    by_cases h1 : (s.size : Int) > 10
    · rw [if_pos h1]; exact hj _
    · rw [if_neg h1]
      by_cases h2 : (s.size : Int) > 1
      · rw [if_pos h2, if_pos (by omega)]; exact hj _
      · rw [if_neg h2]; exact hj _

theorem works20 : gramaryelaw03_works.f 20 = some true := by decide +kernel

theorem DigitParses : gramaryelaw03_DigitParses.Pure := by
  intro s hs
  refine ⟨s.size + 3 + 20, ?_⟩
  obtain ⟨r, hr⟩ := answers s hs
  have hr1 : digit_Parse.f (s.size + 3 + 20) s = some r := at_rounds (digit_Parse.mono s) (by omega) hr
  have hr2 : gramaryeref03_Parse.f (s.size + 3 + 20) s = some r := by rw [← parses s (s.size + 3 + 19)]; exact hr1
  have hw : gramaryelaw03_works.f (s.size + 3 + 20) = some true := at_rounds gramaryelaw03_works.mono (by omega) works20
  unfold gramaryelaw03_DigitParses.f
  rw [hr1, hr2, hw]
  simp

end Go.Proofs.Ythpiofcjckmifaa.Pure
