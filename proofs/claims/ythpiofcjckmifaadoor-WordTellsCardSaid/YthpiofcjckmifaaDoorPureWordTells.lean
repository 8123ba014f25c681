/- word.Is, word.Reserved, word.Points and word.Type answer as the document says, for every text; there is no condition beyond the tables that the card ties. -/
import Derived.Test.YthpiofcjckmifaaDoorStatWordTells
import Derived.Test.YthpiofcjckmifaaDoorMWordTellsx
import Derived.Test.YthpiofcjckmifaaDoorWordIsMWordTells
namespace Go.Proofs.YthpiofcjckmifaaDoor.Pure
open Go.RowKit Go.Proofs.YthpiofcjckmifaaDoor.MWordTells Go.Proofs.YthpiofcjckmifaaDoorW.PrintWords Go.Proofs.YthpiofcjckmifaaDoorW.PrintLast Go.Proofs.YthpiofcjckmifaaDoorW.PrintMore Go.Proofs.YthpiofcjckmifaaDoor.Base Go.Proofs.YthpiofcjckmifaaDoor.Glob Go.Proofs.YthpiofcjckmifaaDoor.WordIsMWordTells

theorem ref_loop (s : ByteArray) (hs : s.size ≤ 140737488351232) (d : Nat) : ∀ (k : Nat) (i : Int), 0 ≤ i → (s.size : Int) - i = d → d < k →
    gramaryeref27_Spelt.l0 k s i = some (if i = 0 ∧ 0 < d then letterB (bt s 0) && allFrom (fun c => letterB c || numB c) s d i else allFrom (fun c => letterB c || numB c) s d i) := by
  induction d with
  | zero =>
    intro k i h0 hd hk
    obtain ⟨k, rfl⟩ : ∃ m, k = m + 1 := ⟨k - 1, by omega⟩
    simp only [gramaryeref27_Spelt.l0]; rw [if_neg (by omega), if_neg (by omega)]; rfl
  | succ d ih =>
    intro k i h0 hd hk
    obtain ⟨k, rfl⟩ : ∃ m, k = m + 1 := ⟨k - 1, by omega⟩
    have h := ih k (i + 1) (by omega) (by omega) (by omega)
    rw [if_neg (by omega)] at h
    simp only [gramaryeref27_Spelt.l0]
    rw [if_pos (by omega), if_pos h0, w64 (x := i + 1) (by omega) (by omega), h, allFrom]
    by_cases hi : i = 0
    · subst hi
      rw [if_pos (show (0 : Int) = 0 ∧ 0 < d + 1 from ⟨rfl, by omega⟩)]
      simp only [if_true]
      unfold letterB
      by_cases h1 : 97 ≤ bt s 0 <;> by_cases h2 : bt s 0 ≤ 122 <;> by_cases h3 : 65 ≤ bt s 0 <;> by_cases h4 : bt s 0 ≤ 90 <;> by_cases h5 : bt s 0 = 95 <;>
        first
        | omega
        | (rw [decide_eq_true (by omega)]; simp [h1, h2, h3, h4, h5])
        | (rw [decide_eq_false (by omega)]; simp [h1, h2, h3, h4, h5])
    · rw [if_neg (show ¬ (i = 0 ∧ 0 < d + 1) from fun h => hi h.1)]
      simp only [if_neg hi]
      have e1 : (letterB (bt s i) || numB (bt s i)) = decide (((97 ≤ bt s i ∧ bt s i ≤ 122) ∨ (65 ≤ bt s i ∧ bt s i ≤ 90) ∨ bt s i = 95) ∨ (48 ≤ bt s i ∧ bt s i ≤ 57)) := by
        unfold letterB numB
        rw [← Bool.decide_or]
      rw [e1]
      by_cases h1 : 97 ≤ bt s i <;> by_cases h2 : bt s i ≤ 122 <;> by_cases h3 : 65 ≤ bt s i <;> by_cases h4 : bt s i ≤ 90 <;> by_cases h5 : bt s i = 95 <;> by_cases h6 : bt s i < 48 <;> by_cases h7 : bt s i > 57 <;>
        first
        | omega
        | (rw [decide_eq_true (by omega)]; simp [h1, h2, h3, h4, h5, h6, h7])
        | (rw [decide_eq_false (by omega)]; simp [h1, h2, h3, h4, h5, h6, h7])

theorem find_loop (s : ByteArray) (l : List ByteArray) (hl : l.length ≤ 1000) (d : Nat) : ∀ (k : Nat) (i : Int), 0 ≤ i → (l.length : Int) - i = d → d < k →
    ∃ r, gramaryeref02_Find.l0 k s l i = some r ∧ decide (r ≥ 0) = (l.drop i.toNat).any fun t => t.toList == s.toList := by
  induction d with
  | zero =>
    intro k i h0 hd hk
    obtain ⟨k, rfl⟩ : ∃ m, k = m + 1 := ⟨k - 1, by omega⟩
    refine ⟨-1, by simp only [gramaryeref02_Find.l0]; rw [if_neg (by omega)], ?_⟩
    rw [List.drop_eq_nil_of_le (by omega)]; rfl
  | succ d ih =>
    intro k i h0 hd hk
    obtain ⟨k, rfl⟩ : ∃ m, k = m + 1 := ⟨k - 1, by omega⟩
    obtain ⟨r, hr, he⟩ := ih k (i + 1) (by omega) (by omega) (by omega)
    have hlt : i.toNat < l.length := by omega
    have hrd : rdOf ByteArray.empty l i = l[i.toNat] := by unfold rdOf; rw [List.getD_eq_getElem?_getD, List.getElem?_eq_getElem hlt]; rfl
    simp only [gramaryeref02_Find.l0]
    rw [if_pos (by omega), if_pos h0, hrd, List.drop_eq_getElem_cons hlt, List.any_cons]
    by_cases h : l[i.toNat].toList = s.toList
    · exact ⟨i, by rw [if_pos h], by rw [beq_iff_eq.2 h, decide_eq_true h0]; rfl⟩
    · refine ⟨r, by rw [if_neg h, w64 (by omega) (by omega)]; exact hr, ?_⟩
      rw [he, beq_eq_false_iff_ne.2 h, show (i + 1).toNat = i.toNat + 1 by omega]; rfl

theorem ref_resv (s : ByteArray) (k : Nat) (hk : 20 ≤ k) : gramaryeref27_Reserved.f k s = some (resvB s) := by
  unfold gramaryeref27_Reserved.f gramaryeref02_Find.f
  obtain ⟨r, hr, he⟩ := find_loop s resvL (by decide) 18 k 0 (by omega) rfl (by omega)
  have : gramaryeref02_Find.l0 k s resvL 0 = some r := hr
  unfold resvL at this
  rw [this]
  simp only [Option.bind_some]
  rw [he]; rfl

theorem ref_is (s : ByteArray) (hs : s.size ≤ 140737488351232) (k : Nat) (hk : s.size + 20 ≤ k) : gramaryeref27_Is.f k s = some (isB s) := by
  have hsp : gramaryeref27_Spelt.f k s = some (decide (1 ≤ s.size ∧ s.size ≤ 40) && (letterB (bt s 0) && allFrom (fun c => letterB c || numB c) s s.size 0)) := by
    obtain ⟨k, rfl⟩ : ∃ m, k = m + 1 := ⟨k - 1, by omega⟩
    unfold gramaryeref27_Spelt.f
    by_cases h0 : (s.size : Int) < 1
    · rw [if_pos h0, decide_eq_false (by omega)]; simp [gramaryeref27_Spelt.j0]
    · rw [if_neg h0]
      by_cases h1 : (s.size : Int) > 40
      · rw [decide_eq_true h1, decide_eq_false (by omega)]; simp [gramaryeref27_Spelt.j0]
      · rw [decide_eq_false h1, decide_eq_true (by omega)]
        simp only [gramaryeref27_Spelt.j0]
        rw [if_neg (by simp), ref_loop s hs s.size k 0 (by omega) (by omega) (by omega), if_pos (by omega)]
        simp
  unfold gramaryeref27_Is.f isB
  rw [hsp, ref_resv s k (by omega)]
  simp only [Option.bind_some]
  cases decide (1 ≤ s.size ∧ s.size ≤ 40) <;> cases letterB (bt s 0) <;> cases resvB s <;> cases allFrom (fun c => letterB c || numB c) s s.size 0 <;> simp

/-- What stands behind a star. -/
def pointsB (s : ByteArray) : ByteArray × Bool := if 1 < s.size ∧ bt s 0 = 42 ∧ isB (s.extract 1 s.size) = true then (s.extract 1 s.size, true) else (⟨#[]⟩, false)
theorem ext1 (s : ByteArray) : (s.extract 1 s.size).size = s.size - 1 := by
  rw [← dlen, dext, List.length_drop, List.length_take, dlen]; omega
theorem star_iff (s : ByteArray) (h : 1 ≤ s.size) : ((s.extract 0 1).toList = (⟨#[42]⟩ : ByteArray).toList) ↔ bt s 0 = 42 := by
  rw [tl_iff]
  have hd : ∃ r, s.data.toList = UInt8.ofNat (bt s 0).toNat :: r := by
    rw [bt_eq]
    have : 0 < s.data.toList.length := by rw [dlen]; omega
    cases hl : s.data.toList with
    | nil => rw [hl] at this; simp at this
    | cons x r => exact ⟨r, by simp⟩
  obtain ⟨r, hr⟩ := hd
  have hb := bt_lt s 0
  constructor
  · intro e
    have e2 : (s.extract 0 1).data.toList = [42] := by rw [e]
    rw [dext0, hr] at e2
    simp at e2
    have := congrArg UInt8.toNat e2
    simp at this
    omega
  · intro e
    apply ext
    rw [dext0, hr, e]; rfl
theorem is_empty : isB ⟨#[]⟩ = false := by decide +kernel
theorem points_is (s : ByteArray) (hs : s.size ≤ 140737488351232) (k : Nat) (hk : s.size + 20 ≤ k) : word_Points.f k s = some (pointsB s) := by
  unfold word_Points.f strings_CutPrefix.f stringslite_CutPrefix.f stringslite_HasPrefix.f pointsB
  have e1 : ((⟨#[42]⟩ : ByteArray).size : Int) = 1 := rfl
  rw [e1]
  by_cases h1 : (s.size : Int) ≥ 1
  · rw [if_pos h1, if_pos (by omega), if_pos (show (1 : Int) ≤ s.size from h1)]
    simp only [Option.bind_some, Int.toNat_one]
    by_cases h2 : bt s 0 = 42
    · rw [beq_iff_eq.2 ((star_iff s (by omega)).2 h2)]
      simp only [if_true]
      rw [if_pos (show (0 : Int) ≤ 1 by omega), if_pos (show (1 : Int) ≤ s.size from h1)]
      simp only [Option.bind_some, if_true]
      rw [is_is (s.extract 1 s.size) (by rw [ext1]; omega) k (by rw [ext1]; omega)]
      simp only [Option.bind_some]
      by_cases h3 : 1 < s.size
      · cases isB (s.extract 1 s.size) <;> simp [h2, h3]
      · have he : s.extract 1 s.size = ⟨#[]⟩ := by
          apply ext
          rw [dext, List.drop_eq_nil_of_le (by rw [List.length_take, dlen]; omega)]
        rw [he, is_empty]; simp
    · rw [beq_eq_false_iff_ne.2 (fun h => h2 ((star_iff s (by omega)).1 h))]
      simp [h2]
  · rw [if_neg h1]
    have : ¬ (1 < s.size ∧ bt s 0 = 42 ∧ isB (s.extract 1 s.size) = true) := by omega
    simp [this]
theorem ref_points (s : ByteArray) (hs : s.size ≤ 140737488351232) (k : Nat) (hk : s.size + 20 ≤ k) : gramaryeref27_Points.f k s = some (pointsB s) := by
  unfold gramaryeref27_Points.f pointsB
  by_cases h1 : (s.size : Int) > 1
  · rw [if_pos h1, if_pos (by omega)]
    by_cases h2 : bt s 0 = 42
    · rw [if_pos h2, if_pos (by omega), ref_is (s.extract 1 s.size) (by rw [ext1]; omega) k (by rw [ext1]; omega)]
      simp only [Option.bind_some]
      have h3 : 1 < s.size := by omega
      cases isB (s.extract 1 s.size) <;> simp [h2, h3]
    · rw [if_neg h2]; simp [h2]
  · rw [if_neg h1]
    have : ¬ (1 < s.size ∧ bt s 0 = 42 ∧ isB (s.extract 1 s.size) = true) := by omega
    simp [this]

def typeB (s : ByteArray) : Bool := (pointsB s).2 || (decide (s.toList = [105, 110, 116]) || decide (s.toList = [98, 111, 111, 108]))
theorem type_is (s : ByteArray) (hs : s.size ≤ 140737488351232) (k : Nat) (hk : s.size + 20 ≤ k) : word_Type.f k s = some (typeB s) := by
  unfold word_Type.f typeB
  rw [points_is s hs k hk]
  simp only [Option.bind_some]
  cases (pointsB s).2 with
  | true => rfl
  | false =>
    by_cases h1 : s.toList = [105, 110, 116]
    · simp [h1]
    · simp [h1, Bool.beq_eq_decide_eq]
theorem ref_type (s : ByteArray) (hs : s.size ≤ 140737488351232) (k : Nat) (hk : s.size + 20 ≤ k) : gramaryeref27_Type.f k s = some (typeB s) := by
  have hp : (pointsB s).2 = decide (1 < s.size ∧ bt s 0 = 42 ∧ isB (s.extract 1 s.size) = true) := by unfold pointsB; split <;> rename_i h <;> simp [h]
  unfold gramaryeref27_Type.f typeB
  rw [hp]
  by_cases h1 : s.toList = [105, 110, 116]
  · simp [h1]
  · rw [if_neg h1]
    by_cases h2 : s.toList = [98, 111, 111, 108]
    · simp [h2]
    · rw [if_neg h2]
      by_cases h3 : (s.size : Int) > 1
      · have h3' : 1 < s.size := by omega
        rw [if_pos h3, if_pos (by omega)]
        by_cases h4 : bt s 0 = 42
        · rw [if_pos h4, if_pos (by omega), ref_is (s.extract 1 s.size) (by rw [ext1]; omega) k (by rw [ext1]; omega)]
          simp [h1, h2, h3', h4]
        · rw [if_neg h4]; simp [h1, h2, h4]
      · rw [if_neg h3]
        have : ¬ (1 < s.size) := by omega
        simp [h1, h2, this]

theorem works60 : gramaryelaw27_works.f 60 = some true := by decide +kernel

theorem WordTells : gramaryelaw27_WordTells.PureG := by
  intro s hs
  refine ⟨s.size + 60, ?_⟩
  unfold gramaryelaw27_WordTells.f
  rw [points_is s hs _ (by omega), ref_points s hs _ (by omega), is_is s hs _ (by omega), ref_is s hs _ (by omega), ref_resv s _ (by omega), type_is s hs _ (by omega), ref_type s hs _ (by omega),
    at_rounds gramaryelaw27_works.mono (show 60 ≤ s.size + 60 by omega) works60, show word_Reserved.f s = some (resvB s) from rfl]
  simp

end Go.Proofs.YthpiofcjckmifaaDoor.Pure
