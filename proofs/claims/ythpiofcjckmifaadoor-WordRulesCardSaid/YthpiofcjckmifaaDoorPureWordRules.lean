/- word.Of and word.Rule answer as the document says, for every text; there is no condition beyond the tables that the card ties. -/
import Derived.Test.YthpiofcjckmifaaDoorStatWordRules
import Derived.Test.YthpiofcjckmifaaDoorMWordRulesx
import Derived.Test.YthpiofcjckmifaaDoorWordIsMWordRules
import Derived.Test.YthpiofcjckmifaaDoorWordNameMWordRules
namespace Go.Proofs.YthpiofcjckmifaaDoor.Pure
open Go.RowKit Go.Proofs.YthpiofcjckmifaaDoor.MWordRules Go.Proofs.YthpiofcjckmifaaDoorW.PrintWords Go.Proofs.YthpiofcjckmifaaDoorW.PrintLast Go.Proofs.YthpiofcjckmifaaDoorW.PrintMore Go.Proofs.YthpiofcjckmifaaDoor.Base Go.Proofs.YthpiofcjckmifaaDoor.Glob Go.Proofs.YthpiofcjckmifaaDoor.WordIsMWordRules Go.Proofs.YthpiofcjckmifaaDoor.WordNameMWordRules

/-- What stands behind rule_. -/
def ruleP : ByteArray := ⟨#[114, 117, 108, 101, 95]⟩
def ruleB (s : ByteArray) : ByteArray × Bool := if 5 < s.size ∧ (s.extract 0 5).toList = [114, 117, 108, 101, 95] ∧ nameB (s.extract 5 s.size) = true then (s.extract 5 s.size, true) else (⟨#[]⟩, false)
theorem ext5 (s : ByteArray) : (s.extract 5 s.size).size = s.size - 5 := by
  rw [← dlen, dext, List.length_drop, List.length_take, dlen]; omega
theorem name_empty : nameB ⟨#[]⟩ = false := by decide +kernel
theorem pre_tl : (⟨#[114, 117, 108, 101, 95]⟩ : ByteArray).toList = [114, 117, 108, 101, 95] := by rw [tl]
theorem rule_is (s : ByteArray) : word_Rule.f s = some (ruleB s) := by
  unfold word_Rule.f strings_CutPrefix.f stringslite_CutPrefix.f stringslite_HasPrefix.f ruleB
  have e1 : ((⟨#[114, 117, 108, 101, 95]⟩ : ByteArray).size : Int) = 5 := rfl
  rw [e1, pre_tl]
  by_cases h1 : (s.size : Int) ≥ 5
  · rw [if_pos h1, if_pos (by omega), if_pos (show (5 : Int) ≤ s.size from h1)]
    simp only [Option.bind_some, show (5 : Int).toNat = 5 from rfl]
    by_cases h2 : (s.extract 0 5).toList = [114, 117, 108, 101, 95]
    · rw [beq_iff_eq.2 h2]
      simp only [if_true]
      rw [if_pos (show (0 : Int) ≤ 5 by omega), if_pos (show (5 : Int) ≤ s.size from h1)]
      simp only [Option.bind_some, if_true]
      rw [name_is]
      simp only [Option.bind_some]
      by_cases h3 : 5 < s.size
      · cases nameB (s.extract 5 s.size) <;> simp [h2, h3]
      · have he : s.extract 5 s.size = ⟨#[]⟩ := by
          apply ext
          rw [dext, List.drop_eq_nil_of_le (by rw [List.length_take, dlen]; omega)]
        rw [he, name_empty]; simp
    · rw [beq_eq_false_iff_ne.2 h2]
      simp [h2]
  · rw [if_neg h1]
    have : ¬ (5 < s.size ∧ (s.extract 0 5).toList = [114, 117, 108, 101, 95] ∧ nameB (s.extract 5 s.size) = true) := by omega
    simp [this]
def ofB (s : ByteArray) : ByteArray := if nameB s = true then ruleP ++ s else ⟨#[]⟩
theorem of_is (s : ByteArray) (hs : s.size ≤ 140737488351232) : word_Of.f s = some (ofB s) := by
  unfold word_Of.f ofB
  rw [name_is]
  simp only [Option.bind_some]
  rw [if_pos (show 5 + s.size ≤ 9223372036854775807 by omega)]
  cases nameB s <;> rfl
theorem works60 : gramaryelaw27_works.f 60 = some true := by decide +kernel

theorem ref_rule (s : ByteArray) (hs : s.size ≤ 140737488351232) (k : Nat) (hk : s.size + 20 ≤ k) : gramaryeref27_Rule.f k s = some (ruleB s) := by
  unfold gramaryeref27_Rule.f ruleB
  by_cases h1 : (s.size : Int) > 5
  · rw [if_pos h1, if_pos (by omega), if_pos (by omega)]
    by_cases h2 : (s.extract 0 5).toList = [114, 117, 108, 101, 95]
    · rw [if_pos h2, ref_name_is (s.extract 5 s.size) (by rw [ext5]; omega) k (by rw [ext5]; omega)]
      have h3 : 5 < s.size := by omega
      simp only [Option.bind_some]
      cases nameB (s.extract 5 s.size) <;> simp [h2, h3]
    · rw [if_neg h2]; simp [h2]
  · rw [if_neg h1]
    have : ¬ (5 < s.size ∧ (s.extract 0 5).toList = [114, 117, 108, 101, 95] ∧ nameB (s.extract 5 s.size) = true) := by omega
    simp [this]
theorem ref_of (s : ByteArray) (hs : s.size ≤ 140737488351232) (k : Nat) (hk : s.size + 20 ≤ k) : gramaryeref27_Of.f k s = some (ofB s) := by
  unfold gramaryeref27_Of.f ofB
  rw [ref_name_is s hs k (by omega)]
  simp only [Option.bind_some]
  rw [if_pos (show 5 + s.size ≤ 9223372036854775807 by omega)]
  cases nameB s <;> rfl

theorem WordRules : gramaryelaw27_WordRules.PureG := by
  intro s hs
  refine ⟨s.size + 60, ?_⟩
  unfold gramaryelaw27_WordRules.f
  rw [rule_is s, ref_rule s hs _ (by omega), of_is s hs, ref_of s hs _ (by omega), at_rounds gramaryelaw27_works.mono (show 60 ≤ s.size + 60 by omega) works60]
  simp

end Go.Proofs.YthpiofcjckmifaaDoor.Pure
