/- word.Rule undoes word.Of, and what word.Of tells of a name is a program's name that is not reserved, for every text; there is no condition beyond the tables that the card ties. -/
import Derived.Test.YthpiofcjckmifaaDoorStatWordBack
import Derived.Test.YthpiofcjckmifaaDoorMWordBackx
import Derived.Test.YthpiofcjckmifaaDoorWordIsMWordBack
import Derived.Test.YthpiofcjckmifaaDoorWordNameMWordBack
namespace Go.Proofs.YthpiofcjckmifaaDoor.Pure
open Go.RowKit Go.Proofs.YthpiofcjckmifaaDoor.MWordBack Go.Proofs.YthpiofcjckmifaaDoorW.PrintWords Go.Proofs.YthpiofcjckmifaaDoorW.PrintLast Go.Proofs.YthpiofcjckmifaaDoorW.PrintMore Go.Proofs.YthpiofcjckmifaaDoor.Base Go.Proofs.YthpiofcjckmifaaDoor.Glob Go.Proofs.YthpiofcjckmifaaDoor.WordIsMWordBack Go.Proofs.YthpiofcjckmifaaDoor.WordNameMWordBack

/-- What stands behind rule_. -/
def ruleP : ByteArray := ⟨#[114, 117, 108, 101, 95]⟩
def ruleB (s : ByteArray) : ByteArray × Bool := if 5 < s.size ∧ (s.extract 0 5).toList = [114, 117, 108, 101, 95] ∧ nameB (s.extract 5 s.size) = true then (s.extract 5 s.size, true) else (⟨#[]⟩, false)
theorem ext5 (s : ByteArray) : (s.extract 5 s.size).size = s.size - 5 := by
  rw [← dlen, dext, List.length_drop, List.length_take, dlen]; omega
theorem name_empty : nameB ⟨#[]⟩ = false := by decide +kernel
theorem pre_tl : (⟨#[114, 117, 108, 101, 95]⟩ : ByteArray).toList = [114, 117, 108, 101, 95] := by rw [tl]
theorem rule_is (s : ByteArray) : word_Rule.f s = some (ruleB s) := by
  unfold word_Rule.f strings_CutPrefix.f stringslite_CutPrefix.f stringslite_HasPrefix.f ruleB
  have e1 : ((⟨#[114, 117, 108, 101, 95]⟩ : ByteArray).size : Int) = 5 := rfl
  rw [e1, pre_tl]
  by_cases h1 : (s.size : Int) ≥ 5
  · rw [if_pos h1, if_pos (by omega), if_pos (show (5 : Int) ≤ s.size from h1)]
    simp only [Option.bind_some, show (5 : Int).toNat = 5 from rfl]
    by_cases h2 : (s.extract 0 5).toList = [114, 117, 108, 101, 95]
    · rw [beq_iff_eq.2 h2]
      simp only [if_true]
      rw [if_pos (show (0 : Int) ≤ 5 by omega), if_pos (show (5 : Int) ≤ s.size from h1)]
      simp only [Option.bind_some, if_true]
      rw [name_is]
      simp only [Option.bind_some]
      by_cases h3 : 5 < s.size
      · cases nameB (s.extract 5 s.size) <;> simp [h2, h3]
      · have he : s.extract 5 s.size = ⟨#[]⟩ := by
          apply ext
          rw [dext, List.drop_eq_nil_of_le (by rw [List.length_take, dlen]; omega)]
        rw [he, name_empty]; simp
    · rw [beq_eq_false_iff_ne.2 h2]
      simp [h2]
  · rw [if_neg h1]
    have : ¬ (5 < s.size ∧ (s.extract 0 5).toList = [114, 117, 108, 101, 95] ∧ nameB (s.extract 5 s.size) = true) := by omega
    simp [this]
def ofB (s : ByteArray) : ByteArray := if nameB s = true then ruleP ++ s else ⟨#[]⟩
theorem of_is (s : ByteArray) (hs : s.size ≤ 140737488351232) : word_Of.f s = some (ofB s) := by
  unfold word_Of.f ofB
  rw [name_is]
  simp only [Option.bind_some]
  rw [if_pos (show 5 + s.size ≤ 9223372036854775807 by omega)]
  cases nameB s <;> rfl
theorem works60 : gramaryelaw27_works.f 60 = some true := by decide +kernel

theorem cut_rule (s : ByteArray) : (ruleP ++ s).extract 0 5 = ruleP ∧ (ruleP ++ s).extract 5 (ruleP ++ s).size = s ∧ (ruleP ++ s).size = 5 + s.size := by
  have hz : (ruleP ++ s).size = 5 + s.size := by rw [ByteArray.size_append]; rfl
  refine ⟨?_, ?_, hz⟩
  · apply ext
    rw [dext0, dapp, List.take_append_of_le_length (by rw [dlen]; exact Nat.le_refl _), List.take_of_length_le (by rw [dlen]; exact Nat.le_refl _)]
  · apply ext
    rw [dext, List.take_of_length_le (by rw [dlen]; exact Nat.le_refl _), dapp]
    exact List.drop_left' (by rw [dlen]; rfl)

theorem bt_app_left (a s : ByteArray) (i : Nat) (h : i < a.size) : bt (a ++ s) (i : Nat) = bt a (i : Nat) := by
  rw [bt_eq, bt_eq, dapp, Int.toNat_natCast, List.getElem?_append_left (by rw [dlen]; exact h)]
theorem bt_app_right (a s : ByteArray) (i : Nat) : bt (a ++ s) ((a.size + i : Nat) : Int) = bt s (i : Nat) := by
  rw [bt_eq, bt_eq, dapp, Int.toNat_natCast, Int.toNat_natCast, List.getElem?_append_right (by rw [dlen]; omega), dlen, Nat.add_sub_cancel_left]

/-- Of a rule's name rule_ and the name is a program's name. -/
theorem is_of (s : ByteArray) (h : nameB s = true) : isB (ruleP ++ s) = true ∧ resvB (ruleP ++ s) = false := by
  obtain ⟨_, _, hz⟩ := cut_rule s
  unfold nameB at h
  simp only [Bool.and_eq_true, Bool.not_eq_true'] at h
  obtain ⟨h, _⟩ := h
  rw [spelt_is] at h
  simp only [Bool.and_eq_true, decide_eq_true_eq] at h
  obtain ⟨⟨h1, h2⟩, _, h3⟩ := h
  rw [allFrom_range, List.all_eq_true] at h3
  have hr : resvB (ruleP ++ s) = false := by
    unfold resvB
    rw [List.any_eq_false]
    intro t ht he
    have e : t = ruleP ++ s := tl_inj (beq_iff_eq.1 he)
    have e5 : t.extract 0 5 = ruleP := by rw [e]; exact (cut_rule s).1
    have : ∀ t ∈ resvL, ¬ ((t.extract 0 5).data.toList = ruleP.data.toList) := by decide +kernel
    exact this t ht (by rw [e5])
  refine ⟨?_, hr⟩
  unfold isB
  rw [hr, hz, decide_eq_true (by omega), show bt (ruleP ++ s) 0 = bt ruleP 0 from bt_app_left ruleP s 0 (by decide), allFrom_range]
  have e1 : letterB (bt ruleP 0) = true := by decide +kernel
  rw [e1]
  simp only [Bool.true_and, Bool.not_false]
  rw [List.all_eq_true]
  intro j hj
  have hj' : j < 5 + s.size := by simpa using hj
  simp only [Int.zero_add]
  by_cases hlt : j < 5
  · rw [bt_app_left ruleP s j hlt]
    have : ∀ j, j < 5 → (letterB (bt ruleP (j : Nat)) || numB (bt ruleP (j : Nat))) = true := by decide +kernel
    exact this j hlt
  · obtain ⟨i, rfl⟩ : ∃ i, j = 5 + i := ⟨j - 5, by omega⟩
    have e2 : bt (ruleP ++ s) ((5 + i : Nat) : Int) = bt s (i : Nat) := bt_app_right ruleP s i
    rw [e2]
    have h4 := h3 i (by simp; omega)
    simp only [Int.zero_add] at h4
    unfold okB name_smallB name_restB at h4
    unfold letterB numB
    rw [← Bool.decide_or] at h4 ⊢
    have h5 := of_decide_eq_true h4
    exact decide_eq_true (by omega)

theorem WordBack : gramaryelaw27_WordBack.PureG := by
  intro s hs
  refine ⟨s.size + 60, ?_⟩
  unfold gramaryelaw27_WordBack.f
  rw [at_rounds gramaryelaw27_works.mono (show 60 ≤ s.size + 60 by omega) works60, of_is s hs, ref_name_is s hs _ (by omega)]
  simp only [Option.bind_some, if_true]
  cases h : nameB s with
  | false => simp [ofB, h, tl]
  | true =>
    have e : ofB s = ruleP ++ s := by unfold ofB; rw [if_pos h]
    obtain ⟨c1, c2, hz⟩ := cut_rule s
    obtain ⟨hi, hr⟩ := is_of s h
    have hn : 1 ≤ s.size ∧ s.size ≤ 20 := by
      have h' := h
      unfold nameB at h'
      simp only [Bool.and_eq_true] at h'
      have h2 := h'.1
      rw [spelt_is] at h2
      simp only [Bool.and_eq_true, decide_eq_true_eq] at h2
      exact h2.1
    have hru : ruleB (ruleP ++ s) = (s, true) := by
      unfold ruleB
      rw [c1, c2]
      rw [if_pos ⟨by omega, by rw [tl]; rfl, h⟩]
    rw [e, rule_is, hru, is_is (ruleP ++ s) (by omega) _ (by omega), hi, show word_Reserved.f (ruleP ++ s) = some (resvB (ruleP ++ s)) from rfl, hr]
    simp

end Go.Proofs.YthpiofcjckmifaaDoor.Pure
