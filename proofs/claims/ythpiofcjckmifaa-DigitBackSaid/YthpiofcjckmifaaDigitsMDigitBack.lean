/-
Digits: what Print writes is read by Parse as the same number, and back (plain lists of digits; the two functions of this law's translation).
-/
import Derived.Test.YthpiofcjckmifaaMDigitBackx1
import Derived.Test.YthpiofcjckmifaaBase
namespace Go.Proofs.Ythpiofcjckmifaa.DigitsMDigitBack
open Go.RowKit Go.Proofs.Ythpiofcjckmifaa.MDigitBack Go.Proofs.YthpiofcjckmifaaW.PrintWords Go.Proofs.YthpiofcjckmifaaW.PrintLast Go.Proofs.YthpiofcjckmifaaW.PrintMore Go.Proofs.Ythpiofcjckmifaa.Base

def val (n : Int) (l : List Int) : Int := l.foldl (fun n d => n * 10 + (d - 48)) n
def Dig (l : List Int) : Prop := ∀ d ∈ l, 48 ≤ d ∧ d ≤ 57
theorem val_cons (n d : Int) (l : List Int) : val n (d :: l) = val (n * 10 + (d - 48)) l := rfl
theorem val_snoc (n d : Int) (l : List Int) : val n (l ++ [d]) = val n l * 10 + (d - 48) := by simp [val, List.foldl_append]
theorem val_ge (l : List Int) (h : Dig l) : ∀ n : Int, 0 ≤ n → n ≤ val n l := by
  induction l with
  | nil => intro n h0; exact Int.le_refl _
  | cons d l ih =>
    intro n h0
    have hd := h d (by simp)
    have := ih (fun x hx => h x (by simp [hx])) (n * 10 + (d - 48)) (by omega)
    rw [val_cons]; omega
theorem val_pos (l : List Int) (h : Dig l) (d : Int) (hd : 48 < d) : 0 < val 0 (d :: l) := by
  rw [val_cons]
  have := val_ge l h (0 * 10 + (d - 48)) (by omega)
  omega

/-- Of a list of digits without a 0 ahead: its number's digits are the list. -/
theorem g_val (k : Nat) : ∀ (l acc : List Int), Dig l → l ≠ [] → (l.length = 1 ∨ ∃ d r, l = d :: r ∧ 48 < d) → l.length ≤ k → digit_Print.g k (val 0 l) acc = l ++ acc := by
  induction k with
  | zero => intro l acc _ hne _ hl; exact absurd (List.eq_nil_of_length_eq_zero (by omega)) hne
  | succ k ih =>
    intro l acc hD hne hh hl
    obtain ⟨r, d, rfl⟩ : ∃ r d, l = r ++ [d] := ⟨l.dropLast, l.getLast hne, (List.dropLast_concat_getLast hne).symm⟩
    have hd := hD d (by simp)
    have hr : Dig r := fun x hx => hD x (by simp [hx])
    have h0 := val_ge r hr 0 (Int.le_refl _)
    rw [val_snoc]
    have e1 : (val 0 r * 10 + (d - 48)) / 10 = val 0 r := by omega
    have e2 : (val 0 r * 10 + (d - 48)) % 10 = d - 48 := by omega
    unfold digit_Print.g
    rw [e1, e2, show 48 + (d - 48) = d by omega]
    cases r with
    | nil => simp [val]
    | cons x r =>
      have hx : 48 < x := by
        rcases hh with hh | ⟨y, z, e, hy⟩
        · simp at hh
        · simp at e; omega
      have hp := val_pos r (fun z hz => hr z (by simp [hz])) x hx
      rw [if_neg (by omega), ih (x :: r) (d :: acc) hr (by simp) (.inr ⟨x, r, rfl, hx⟩) (by simp at hl ⊢; omega)]
      simp

/-- A number's digits. -/
theorem g_digits (k : Nat) : ∀ (m : Int) (acc : List Int), 0 ≤ m → m < 10 ^ (k + 1) → ∃ l, digit_Print.g (k + 1) m acc = l ++ acc ∧ Dig l ∧ l ≠ [] ∧ (l.length = 1 ∨ ∃ d r, l = d :: r ∧ 48 < d) ∧ l.length ≤ k + 1 ∧ val 0 l = m := by
  induction k with
  | zero =>
    intro m acc h0 h1
    refine ⟨[48 + m], ?_, ?_, by simp, .inl rfl, by simp, ?_⟩
    · unfold digit_Print.g
      rw [if_pos (by omega), show m % 10 = m by omega]; rfl
    · intro d hd; simp at hd; omega
    · simp [val]; omega
  | succ k ih =>
    intro m acc h0 h1
    unfold digit_Print.g
    by_cases hz : m / 10 = 0
    · rw [if_pos hz]
      refine ⟨[48 + m % 10], rfl, ?_, by simp, .inl rfl, by simp, ?_⟩
      · intro d hd; simp at hd; omega
      · simp [val]; omega
    · rw [if_neg hz]
      have hp : (10 : Int) ^ (k + 1 + 1) = 10 ^ (k + 1) * 10 := Int.pow_succ ..
      obtain ⟨l, e, hD, hne, hh, hl, hv⟩ := ih (m / 10) ((48 + m % 10) :: acc) (by omega) (by omega)
      refine ⟨l ++ [48 + m % 10], by rw [e]; simp, ?_, by simp, ?_, by simp; omega, ?_⟩
      · intro d hd
        rcases List.mem_append.1 hd with hd | hd
        · exact hD d hd
        · simp at hd; omega
      · right
        obtain ⟨x, r, rfl⟩ : ∃ x r, l = x :: r := by cases l with | nil => exact absurd rfl hne | cons x r => exact ⟨x, r, rfl⟩
        refine ⟨x, r ++ [48 + m % 10], rfl, ?_⟩
        rcases hh with hh | ⟨y, z, e', hy⟩
        · have : r = [] := List.eq_nil_of_length_eq_zero (by simp at hh; exact hh ▸ rfl)
          subst this
          have := hD x (by simp)
          simp [val] at hv
          omega
        · simp at e'; omega
      · rw [val_snoc, hv]; omega

theorem strOf_bytesOf (s : ByteArray) : strOfNums (bytesOf s) = s := by
  apply ext
  rw [data_strOfNums]
  unfold bytesOf
  rw [List.map_map]
  have : (fun n : Int => UInt8.ofNat n.toNat) ∘ (fun b : UInt8 => (b.toNat : Int)) = id := by
    funext b; simp
  rw [this, List.map_id]

theorem drop_bt (s : ByteArray) (i : Int) (h0 : 0 ≤ i) (h1 : i < (s.size : Int)) : (bytesOf s).drop i.toNat = bt s i :: (bytesOf s).drop (i + 1).toNat := by
  have hl : i.toNat < (bytesOf s).length := by rw [bytesOf_length]; omega
  rw [List.drop_eq_getElem_cons hl, show (i + 1).toNat = i.toNat + 1 by omega]
  congr 1
  rw [← rd_bytesOf]; unfold rd; simp [List.getD_eq_getElem?_getD, List.getElem?_eq_getElem hl]

/-- The loop of Parse, all that is left being digits. -/
theorem l0_digits (s : ByteArray) (hs : s.size ≤ 10) (d : Nat) : ∀ (k : Nat) (n i : Int), 0 ≤ i → (s.size : Int) - i = d → d < k → 0 ≤ n → n < 10 ^ i.toNat → Dig ((bytesOf s).drop i.toNat) →
    digit_Parse.l0 k s n (s.size : Int) i = some (if val n ((bytesOf s).drop i.toNat) > 2147483647 then (0, 5) else (val n ((bytesOf s).drop i.toNat), 0)) := by
  induction d with
  | zero =>
    intro k n i h0 hd hk _ _ _
    obtain ⟨k, rfl⟩ : ∃ m, k = m + 1 := ⟨k - 1, by omega⟩
    have : (bytesOf s).drop i.toNat = [] := List.drop_eq_nil_of_le (by rw [bytesOf_length]; omega)
    rw [this]
    simp only [digit_Parse.l0]; rw [if_neg (by omega)]
    rw [show val n [] = n from rfl]
    by_cases hv : n > 2147483647
    · rw [if_pos hv, if_pos hv]
    · rw [if_neg hv, if_neg hv]
  | succ d ih =>
    intro k n i h0 hd hk hn hn1 hD
    obtain ⟨k, rfl⟩ : ∃ m, k = m + 1 := ⟨k - 1, by omega⟩
    have hlt : i < (s.size : Int) := by omega
    rw [drop_bt s i h0 hlt] at hD ⊢
    have hb := hD (bt s i) (by simp)
    have hp : (10 : Int) ^ (i + 1).toNat = 10 ^ i.toNat * 10 := by rw [show (i + 1).toNat = i.toNat + 1 by omega]; exact Int.pow_succ ..
    have hq : (10 : Int) ^ (i + 1).toNat ≤ 10 ^ 10 := by
      have := Nat.pow_le_pow_right (n := 10) (by omega) (show (i + 1).toNat ≤ 10 by omega)
      exact_mod_cast this
    simp only [digit_Parse.l0]
    rw [if_pos hlt, if_pos h0, if_pos hlt, if_neg (by omega), if_neg (by omega), w64 (x := n * 10) (by omega) (by omega), show (bt s i - 48) % 256 = bt s i - 48 by omega,
      w64 (x := n * 10 + (bt s i - 48)) (by omega) (by omega), w64 (x := i + 1) (by omega) (by omega), val_cons]
    exact ih k (n * 10 + (bt s i - 48)) (i + 1) (by omega) (by omega) (by omega) (by omega) (by omega) (fun x hx => hD x (by simp [hx]))

/-- What the loop of Parse accepts is digits alone. -/
theorem l0_accepts (s : ByteArray) (k : Nat) : ∀ (n i a : Int), 0 ≤ i → i ≤ (s.size : Int) → (s.size : Int) ≤ 10 → digit_Parse.l0 k s n (s.size : Int) i = some (a, 0) → Dig ((bytesOf s).drop i.toNat) := by
  induction k with
  | zero => intro n i a _ _ _ h; simp [digit_Parse.l0] at h
  | succ k ih =>
    intro n i a h0 h1 hs h
    simp only [digit_Parse.l0] at h
    by_cases hlt : i < (s.size : Int)
    · rw [if_pos hlt, if_pos h0, if_pos hlt] at h
      by_cases h3 : bt s i < 48
      · rw [if_pos h3] at h; simp at h
      · rw [if_neg h3] at h
        by_cases h4 : bt s i > 57
        · rw [if_pos h4] at h; simp at h
        · rw [if_neg h4, w64 (x := i + 1) (by omega) (by omega)] at h
          have := ih _ (i + 1) a (by omega) (by omega) hs h
          rw [drop_bt s i h0 hlt]
          intro d hd
          rcases List.mem_cons.1 hd with rfl | hd
          · omega
          · exact this d hd
    · have : (bytesOf s).drop i.toNat = [] := List.drop_eq_nil_of_le (by rw [bytesOf_length]; omega)
      rw [this]; intro d hd; simp at hd

theorem bt0 (s : ByteArray) (h : 0 < s.size) : ∃ r, bytesOf s = bt s 0 :: r := by
  have := drop_bt s 0 (by omega) (by omega)
  exact ⟨_, by simpa using this⟩

/-- A text of fair digits is read as its number. -/
theorem parse_digits (s : ByteArray) (h0 : 0 < s.size) (h1 : s.size ≤ 10) (hD : Dig (bytesOf s)) (hh : s.size = 1 ∨ 48 < bt s 0) (hv : val 0 (bytesOf s) ≤ 2147483647) (k : Nat) (hk : 20 ≤ k) :
    digit_Parse.f k s = some (val 0 (bytesOf s), 0) := by
  obtain ⟨k, rfl⟩ : ∃ m, k = m + 1 := ⟨k - 1, by omega⟩
  have hl := l0_digits s h1 s.size k 0 0 (by omega) (by omega) (by omega) (by omega) (by simp) (by simpa using hD)
  simp only [Int.toNat_zero, List.drop_zero] at hl
  rw [if_neg (by omega)] at hl
  have hj : digit_Parse.j0 (k + 1) s false = some (val 0 (bytesOf s), 0) := by
    simp only [digit_Parse.j0]; rw [if_neg (by simp)]; exact hl
  unfold digit_Parse.f
  rw [if_neg (by omega), if_neg (by omega)]
  by_cases h2 : (s.size : Int) > 1
  · rw [if_pos h2, if_pos (by omega), beq_eq_false_iff_ne.2 (by omega)]; exact hj
  · rw [if_neg h2]; exact hj

/-- What Parse accepts is fair digits, and told is their number. -/
theorem parse_accepts (s : ByteArray) (k : Nat) (a : Int) (h : digit_Parse.f k s = some (a, 0)) :
    0 < s.size ∧ s.size ≤ 10 ∧ Dig (bytesOf s) ∧ (s.size = 1 ∨ 48 < bt s 0) ∧ a = val 0 (bytesOf s) ∧ a ≤ 2147483647 := by
  have hj : ∀ b, digit_Parse.j0 k s b = some (a, 0) → b = false ∧ ∃ k', digit_Parse.l0 k' s 0 (s.size : Int) 0 = some (a, 0) := by
    intro b hb
    cases k with
    | zero => simp [digit_Parse.j0] at hb
    | succ k =>
      simp only [digit_Parse.j0] at hb
      cases b with
      | true => simp at hb
      | false => rw [if_neg (by simp)] at hb; exact ⟨rfl, k, hb⟩
  have key : 0 < s.size → s.size ≤ 10 → (∃ k', digit_Parse.l0 k' s 0 (s.size : Int) 0 = some (a, 0)) → (s.size = 1 ∨ bt s 0 ≠ 48) →
      0 < s.size ∧ s.size ≤ 10 ∧ Dig (bytesOf s) ∧ (s.size = 1 ∨ 48 < bt s 0) ∧ a = val 0 (bytesOf s) ∧ a ≤ 2147483647 := by
    intro h0 h1 ⟨k', hl⟩ hh
    have hD := l0_accepts s k' 0 0 a (by omega) (by omega) (by omega) hl
    simp only [Int.toNat_zero, List.drop_zero] at hD
    have hl2 := l0_digits s h1 s.size (k' + 20) 0 0 (by omega) (by omega) (by omega) (by omega) (by simp) (by simpa using hD)
    simp only [Int.toNat_zero, List.drop_zero] at hl2
    have hl3 : digit_Parse.l0 (k' + 20) s 0 (s.size : Int) 0 = some (a, 0) := at_rounds (fun k => (digit_Parse.mono_l k).2 _ _ _ _) (by omega) hl
    rw [hl2] at hl3
    obtain ⟨r, hr⟩ := bt0 s h0
    have hb := hD (bt s 0) (by rw [hr]; simp)
    refine ⟨h0, h1, hD, ?_, ?_⟩
    · rcases hh with hh | hh
      · exact .inl hh
      · exact .inr (by omega)
    · by_cases hv : val 0 (bytesOf s) > 2147483647
      · rw [if_pos hv] at hl3; simp at hl3
      · rw [if_neg hv] at hl3; simp at hl3; omega
  unfold digit_Parse.f at h
  by_cases h0 : (s.size : Int) = 0
  · rw [if_pos h0] at h; have := (hj _ h).1; simp at this
  · rw [if_neg h0] at h
    by_cases h1 : (s.size : Int) > 10
    · rw [if_pos h1] at h; have := (hj _ h).1; simp at this
    · rw [if_neg h1] at h
      by_cases h2 : (s.size : Int) > 1
      · rw [if_pos h2, if_pos (by omega)] at h
        have := hj _ h
        exact key (by omega) (by omega) this.2 (.inr (beq_eq_false_iff_ne.1 this.1))
      · rw [if_neg h2] at h
        exact key (by omega) (by omega) (hj _ h).2 (.inl (by omega))

theorem bytes_strOf (l : List Int) (h : ∀ x ∈ l, 0 ≤ x ∧ x ≤ 255) : bytesOf (strOfNums l) = l := by
  unfold bytesOf
  rw [data_strOfNums, List.map_map]
  conv => rhs; rw [← List.map_id l]
  apply List.map_congr_left
  intro x hx
  have := h x hx
  simp
  omega

/-- Parse undoes Print. -/
theorem parse_print (m : Int) (h0 : 0 ≤ m) (h1 : m ≤ 2147483647) : ∃ s, digit_Print.f m = some s ∧ ∀ k, 20 ≤ k → digit_Parse.f k s = some (m, 0) := by
  have hm : mn (mx m 0) 2147483647 = m := by unfold mn mx; split <;> split <;> omega
  obtain ⟨l, e, hD, hne, hh, hl, hv⟩ := g_digits 9 m [] h0 (by omega)
  refine ⟨strOfNums l, by unfold digit_Print.f; rw [hm, e, List.append_nil], fun k hk => ?_⟩
  have hb : bytesOf (strOfNums l) = l := bytes_strOf l (fun x hx => by have := hD x hx; omega)
  have hz : (strOfNums l).size = l.length := size_strOfNums l
  have hpos : 0 < l.length := List.length_pos_iff.2 hne
  have := parse_digits (strOfNums l) (by omega) (by omega) (by rw [hb]; exact hD) ?_ (by rw [hb, hv]; exact h1) k hk
  · rw [hb, hv] at this; exact this
  · rcases hh with hh | ⟨d, r, rfl, hd⟩
    · left; omega
    · right
      rw [← rd_bytesOf, hb]; simpa [rd] using hd

/-- Print undoes Parse. -/
theorem print_parse (s : ByteArray) (k : Nat) (a : Int) (h : digit_Parse.f k s = some (a, 0)) : digit_Print.f a = some s := by
  obtain ⟨h0, h1, hD, hh, rfl, hv⟩ := parse_accepts s k a h
  have hge := val_ge (bytesOf s) hD 0 (Int.le_refl _)
  have hm : mn (mx (val 0 (bytesOf s)) 0) 2147483647 = val 0 (bytesOf s) := by unfold mn mx; split <;> split <;> omega
  have hb := bytesOf_length s
  unfold digit_Print.f
  rw [hm, g_val 10 (bytesOf s) [] hD (by intro e; rw [e] at hb; simp at hb; omega) ?_ (by omega), List.append_nil, strOf_bytesOf]
  rcases hh with hh | hh
  · left; omega
  · right
    obtain ⟨r, hr⟩ := bt0 s h0
    exact ⟨_, r, hr, hh⟩

end Go.Proofs.Ythpiofcjckmifaa.DigitsMDigitBack
