/- Tokens read again, with a blank between, are the same tokens. -/
import Derived.Test.YtmpdilifoblnaaaDoorStatTokenAgain
import Derived.Test.YtmpdilifoblnaaaDoorBase
import Derived.Lib.IndexAny
namespace Go.Proofs.YtmpdilifoblnaaaDoor.Pure
open Go.RowKit Go.Proofs.YtmpdilifoblnaaaDoor.MTokenAgain Go.Proofs.YtmpdilifoblnaaaDoorW.PrintWords Go.Proofs.YtmpdilifoblnaaaDoorW.PrintLast Go.Proofs.YtmpdilifoblnaaaDoorW.PrintMore Go.Proofs.YtmpdilifoblnaaaDoor.Base Go.Proofs.YtmpdilifoblnaaaDoor.Glob
set_option linter.unusedSimpArgs false
set_option linter.unusedVariables false

def val (n : Int) (l : List Int) : Int := l.foldl (fun n d => n * 10 + (d - 48)) n
def Dig (l : List Int) : Prop := ∀ d ∈ l, 48 ≤ d ∧ d ≤ 57
theorem val_cons (n d : Int) (l : List Int) : val n (d :: l) = val (n * 10 + (d - 48)) l := rfl
theorem val_snoc (n d : Int) (l : List Int) : val n (l ++ [d]) = val n l * 10 + (d - 48) := by simp [val, List.foldl_append]
theorem val_ge (l : List Int) (h : Dig l) : ∀ n : Int, 0 ≤ n → n ≤ val n l := by
  induction l with
  | nil => intro n h0; exact Int.le_refl _
  | cons d l ih =>
    intro n h0
    have hd := h d (by simp)
    have := ih (fun x hx => h x (by simp [hx])) (n * 10 + (d - 48)) (by omega)
    rw [val_cons]; omega
theorem val_pos (l : List Int) (h : Dig l) (d : Int) (hd : 48 < d) : 0 < val 0 (d :: l) := by
  rw [val_cons]
  have := val_ge l h (0 * 10 + (d - 48)) (by omega)
  omega

/-- Of a list of digits without a 0 ahead: its number's digits are the list. -/
theorem g_val (k : Nat) : ∀ (l acc : List Int), Dig l → l ≠ [] → (l.length = 1 ∨ ∃ d r, l = d :: r ∧ 48 < d) → l.length ≤ k → digit_Print.g k (val 0 l) acc = l ++ acc := by
  induction k with
  | zero => intro l acc _ hne _ hl; exact absurd (List.eq_nil_of_length_eq_zero (by omega)) hne
  | succ k ih =>
    intro l acc hD hne hh hl
    obtain ⟨r, d, rfl⟩ : ∃ r d, l = r ++ [d] := ⟨l.dropLast, l.getLast hne, (List.dropLast_concat_getLast hne).symm⟩
    have hd := hD d (by simp)
    have hr : Dig r := fun x hx => hD x (by simp [hx])
    have h0 := val_ge r hr 0 (Int.le_refl _)
    rw [val_snoc]
    have e1 : (val 0 r * 10 + (d - 48)) / 10 = val 0 r := by omega
    have e2 : (val 0 r * 10 + (d - 48)) % 10 = d - 48 := by omega
    unfold digit_Print.g
    rw [e1, e2, show 48 + (d - 48) = d by omega]
    cases r with
    | nil => simp [val]
    | cons x r =>
      have hx : 48 < x := by
        rcases hh with hh | ⟨y, z, e, hy⟩
        · simp at hh
        · simp at e; omega
      have hp := val_pos r (fun z hz => hr z (by simp [hz])) x hx
      rw [if_neg (by omega), ih (x :: r) (d :: acc) hr (by simp) (.inr ⟨x, r, rfl, hx⟩) (by simp at hl ⊢; omega)]
      simp

/-- A number's digits. -/
theorem g_digits (k : Nat) : ∀ (m : Int) (acc : List Int), 0 ≤ m → m < 10 ^ (k + 1) → ∃ l, digit_Print.g (k + 1) m acc = l ++ acc ∧ Dig l ∧ l ≠ [] ∧ (l.length = 1 ∨ ∃ d r, l = d :: r ∧ 48 < d) ∧ l.length ≤ k + 1 ∧ val 0 l = m := by
  induction k with
  | zero =>
    intro m acc h0 h1
    refine ⟨[48 + m], ?_, ?_, by simp, .inl rfl, by simp, ?_⟩
    · unfold digit_Print.g
      rw [if_pos (by omega), show m % 10 = m by omega]; rfl
    · intro d hd; simp at hd; omega
    · simp [val]; omega
  | succ k ih =>
    intro m acc h0 h1
    unfold digit_Print.g
    by_cases hz : m / 10 = 0
    · rw [if_pos hz]
      refine ⟨[48 + m % 10], rfl, ?_, by simp, .inl rfl, by simp, ?_⟩
      · intro d hd; simp at hd; omega
      · simp [val]; omega
    · rw [if_neg hz]
      have hp : (10 : Int) ^ (k + 1 + 1) = 10 ^ (k + 1) * 10 := Int.pow_succ ..
      obtain ⟨l, e, hD, hne, hh, hl, hv⟩ := ih (m / 10) ((48 + m % 10) :: acc) (by omega) (by omega)
      refine ⟨l ++ [48 + m % 10], by rw [e]; simp, ?_, by simp, ?_, by simp; omega, ?_⟩
      · intro d hd
        rcases List.mem_append.1 hd with hd | hd
        · exact hD d hd
        · simp at hd; omega
      · right
        obtain ⟨x, r, rfl⟩ : ∃ x r, l = x :: r := by cases l with | nil => exact absurd rfl hne | cons x r => exact ⟨x, r, rfl⟩
        refine ⟨x, r ++ [48 + m % 10], rfl, ?_⟩
        rcases hh with hh | ⟨y, z, e', hy⟩
        · have : r = [] := List.eq_nil_of_length_eq_zero (by simp at hh; exact hh ▸ rfl)
          subst this
          have := hD x (by simp)
          simp [val] at hv
          omega
        · simp at e'; omega
      · rw [val_snoc, hv]; omega

theorem strOf_bytesOf (s : ByteArray) : strOfNums (bytesOf s) = s := by
  apply ext
  rw [data_strOfNums]
  unfold bytesOf
  rw [List.map_map]
  have : (fun n : Int => UInt8.ofNat n.toNat) ∘ (fun b : UInt8 => (b.toNat : Int)) = id := by
    funext b; simp
  rw [this, List.map_id]

theorem drop_bt (s : ByteArray) (i : Int) (h0 : 0 ≤ i) (h1 : i < (s.size : Int)) : (bytesOf s).drop i.toNat = bt s i :: (bytesOf s).drop (i + 1).toNat := by
  have hl : i.toNat < (bytesOf s).length := by rw [bytesOf_length]; omega
  rw [List.drop_eq_getElem_cons hl, show (i + 1).toNat = i.toNat + 1 by omega]
  congr 1
  rw [← rd_bytesOf]; unfold rd; simp [List.getD_eq_getElem?_getD, List.getElem?_eq_getElem hl]

/-- The loop of Parse, all that is left being digits. -/
theorem l0_digits (s : ByteArray) (hs : s.size ≤ 10) (d : Nat) : ∀ (k : Nat) (n i : Int), 0 ≤ i → (s.size : Int) - i = d → d < k → 0 ≤ n → n < 10 ^ i.toNat → Dig ((bytesOf s).drop i.toNat) →
    digit_Parse.l0 k s n (s.size : Int) i = some (if val n ((bytesOf s).drop i.toNat) > 2147483647 then (0, 5) else (val n ((bytesOf s).drop i.toNat), 0)) := by
  induction d with
  | zero =>
    intro k n i h0 hd hk _ _ _
    obtain ⟨k, rfl⟩ : ∃ m, k = m + 1 := ⟨k - 1, by omega⟩
    have : (bytesOf s).drop i.toNat = [] := List.drop_eq_nil_of_le (by rw [bytesOf_length]; omega)
    rw [this]
    simp only [digit_Parse.l0]; rw [if_neg (by omega)]
    rw [show val n [] = n from rfl]
    by_cases hv : n > 2147483647
    · rw [if_pos hv, if_pos hv]
    · rw [if_neg hv, if_neg hv]
  | succ d ih =>
    intro k n i h0 hd hk hn hn1 hD
    obtain ⟨k, rfl⟩ : ∃ m, k = m + 1 := ⟨k - 1, by omega⟩
    have hlt : i < (s.size : Int) := by omega
    rw [drop_bt s i h0 hlt] at hD ⊢
    have hb := hD (bt s i) (by simp)
    have hp : (10 : Int) ^ (i + 1).toNat = 10 ^ i.toNat * 10 := by rw [show (i + 1).toNat = i.toNat + 1 by omega]; exact Int.pow_succ ..
    have hq : (10 : Int) ^ (i + 1).toNat ≤ 10 ^ 10 := by
      have := Nat.pow_le_pow_right (n := 10) (by omega) (show (i + 1).toNat ≤ 10 by omega)
      exact_mod_cast this
    simp only [digit_Parse.l0]
    rw [if_pos hlt, if_pos h0, if_pos hlt, if_neg (by omega), if_neg (by omega), w64 (x := n * 10) (by omega) (by omega), show (bt s i - 48) % 256 = bt s i - 48 by omega,
      w64 (x := n * 10 + (bt s i - 48)) (by omega) (by omega), w64 (x := i + 1) (by omega) (by omega), val_cons]
    exact ih k (n * 10 + (bt s i - 48)) (i + 1) (by omega) (by omega) (by omega) (by omega) (by omega) (fun x hx => hD x (by simp [hx]))

/-- What the loop of Parse accepts is digits alone. -/
theorem l0_accepts (s : ByteArray) (k : Nat) : ∀ (n i a : Int), 0 ≤ i → i ≤ (s.size : Int) → (s.size : Int) ≤ 10 → digit_Parse.l0 k s n (s.size : Int) i = some (a, 0) → Dig ((bytesOf s).drop i.toNat) := by
  induction k with
  | zero => intro n i a _ _ _ h; simp [digit_Parse.l0] at h
  | succ k ih =>
    intro n i a h0 h1 hs h
    simp only [digit_Parse.l0] at h
    by_cases hlt : i < (s.size : Int)
    · rw [if_pos hlt, if_pos h0, if_pos hlt] at h
      by_cases h3 : bt s i < 48
      · rw [if_pos h3] at h; simp at h
      · rw [if_neg h3] at h
        by_cases h4 : bt s i > 57
        · rw [if_pos h4] at h; simp at h
        · rw [if_neg h4, w64 (x := i + 1) (by omega) (by omega)] at h
          have := ih _ (i + 1) a (by omega) (by omega) hs h
          rw [drop_bt s i h0 hlt]
          intro d hd
          rcases List.mem_cons.1 hd with rfl | hd
          · omega
          · exact this d hd
    · have : (bytesOf s).drop i.toNat = [] := List.drop_eq_nil_of_le (by rw [bytesOf_length]; omega)
      rw [this]; intro d hd; simp at hd

theorem bt0 (s : ByteArray) (h : 0 < s.size) : ∃ r, bytesOf s = bt s 0 :: r := by
  have := drop_bt s 0 (by omega) (by omega)
  exact ⟨_, by simpa using this⟩

/-- A text of fair digits is read as its number. -/
theorem parse_digits (s : ByteArray) (h0 : 0 < s.size) (h1 : s.size ≤ 10) (hD : Dig (bytesOf s)) (hh : s.size = 1 ∨ 48 < bt s 0) (hv : val 0 (bytesOf s) ≤ 2147483647) (k : Nat) (hk : 20 ≤ k) :
    digit_Parse.f k s = some (val 0 (bytesOf s), 0) := by
  obtain ⟨k, rfl⟩ : ∃ m, k = m + 1 := ⟨k - 1, by omega⟩
  have hl := l0_digits s h1 s.size k 0 0 (by omega) (by omega) (by omega) (by omega) (by simp) (by simpa using hD)
  simp only [Int.toNat_zero, List.drop_zero] at hl
  rw [if_neg (by omega)] at hl
  have hj : digit_Parse.j0 (k + 1) s false = some (val 0 (bytesOf s), 0) := by
    simp only [digit_Parse.j0]; rw [if_neg (by simp)]; exact hl
  unfold digit_Parse.f
  rw [if_neg (by omega), if_neg (by omega)]
  by_cases h2 : (s.size : Int) > 1
  · rw [if_pos h2, if_pos (by omega), beq_eq_false_iff_ne.2 (by omega)]; exact hj
  · rw [if_neg h2]; exact hj

/-- What Parse accepts is fair digits, and told is their number. -/
theorem parse_accepts (s : ByteArray) (k : Nat) (a : Int) (h : digit_Parse.f k s = some (a, 0)) :
    0 < s.size ∧ s.size ≤ 10 ∧ Dig (bytesOf s) ∧ (s.size = 1 ∨ 48 < bt s 0) ∧ a = val 0 (bytesOf s) ∧ a ≤ 2147483647 := by
  have hj : ∀ b, digit_Parse.j0 k s b = some (a, 0) → b = false ∧ ∃ k', digit_Parse.l0 k' s 0 (s.size : Int) 0 = some (a, 0) := by
    intro b hb
    cases k with
    | zero => simp [digit_Parse.j0] at hb
    | succ k =>
      simp only [digit_Parse.j0] at hb
      cases b with
      | true => simp at hb
      | false => rw [if_neg (by simp)] at hb; exact ⟨rfl, k, hb⟩
  have key : 0 < s.size → s.size ≤ 10 → (∃ k', digit_Parse.l0 k' s 0 (s.size : Int) 0 = some (a, 0)) → (s.size = 1 ∨ bt s 0 ≠ 48) →
      0 < s.size ∧ s.size ≤ 10 ∧ Dig (bytesOf s) ∧ (s.size = 1 ∨ 48 < bt s 0) ∧ a = val 0 (bytesOf s) ∧ a ≤ 2147483647 := by
    intro h0 h1 ⟨k', hl⟩ hh
    have hD := l0_accepts s k' 0 0 a (by omega) (by omega) (by omega) hl
    simp only [Int.toNat_zero, List.drop_zero] at hD
    have hl2 := l0_digits s h1 s.size (k' + 20) 0 0 (by omega) (by omega) (by omega) (by omega) (by simp) (by simpa using hD)
    simp only [Int.toNat_zero, List.drop_zero] at hl2
    have hl3 : digit_Parse.l0 (k' + 20) s 0 (s.size : Int) 0 = some (a, 0) := at_rounds (fun k => (digit_Parse.mono_l k).2 _ _ _ _) (by omega) hl
    rw [hl2] at hl3
    obtain ⟨r, hr⟩ := bt0 s h0
    have hb := hD (bt s 0) (by rw [hr]; simp)
    refine ⟨h0, h1, hD, ?_, ?_⟩
    · rcases hh with hh | hh
      · exact .inl hh
      · exact .inr (by omega)
    · by_cases hv : val 0 (bytesOf s) > 2147483647
      · rw [if_pos hv] at hl3; simp at hl3
      · rw [if_neg hv] at hl3; simp at hl3; omega
  unfold digit_Parse.f at h
  by_cases h0 : (s.size : Int) = 0
  · rw [if_pos h0] at h; have := (hj _ h).1; simp at this
  · rw [if_neg h0] at h
    by_cases h1 : (s.size : Int) > 10
    · rw [if_pos h1] at h; have := (hj _ h).1; simp at this
    · rw [if_neg h1] at h
      by_cases h2 : (s.size : Int) > 1
      · rw [if_pos h2, if_pos (by omega)] at h
        have := hj _ h
        exact key (by omega) (by omega) this.2 (.inr (beq_eq_false_iff_ne.1 this.1))
      · rw [if_neg h2] at h
        exact key (by omega) (by omega) (hj _ h).2 (.inl (by omega))

theorem bytes_strOf (l : List Int) (h : ∀ x ∈ l, 0 ≤ x ∧ x ≤ 255) : bytesOf (strOfNums l) = l := by
  unfold bytesOf
  rw [data_strOfNums, List.map_map]
  conv => rhs; rw [← List.map_id l]
  apply List.map_congr_left
  intro x hx
  have := h x hx
  simp
  omega

/-- Parse undoes Print. -/
theorem parse_print (m : Int) (h0 : 0 ≤ m) (h1 : m ≤ 2147483647) : ∃ s, digit_Print.f m = some s ∧ ∀ k, 20 ≤ k → digit_Parse.f k s = some (m, 0) := by
  have hm : mn (mx m 0) 2147483647 = m := by unfold mn mx; split <;> split <;> omega
  obtain ⟨l, e, hD, hne, hh, hl, hv⟩ := g_digits 9 m [] h0 (by omega)
  refine ⟨strOfNums l, by unfold digit_Print.f; rw [hm, e, List.append_nil], fun k hk => ?_⟩
  have hb : bytesOf (strOfNums l) = l := bytes_strOf l (fun x hx => by have := hD x hx; omega)
  have hz : (strOfNums l).size = l.length := size_strOfNums l
  have hpos : 0 < l.length := List.length_pos_iff.2 hne
  have := parse_digits (strOfNums l) (by omega) (by omega) (by rw [hb]; exact hD) ?_ (by rw [hb, hv]; exact h1) k hk
  · rw [hb, hv] at this; exact this
  · rcases hh with hh | ⟨d, r, rfl, hd⟩
    · left; omega
    · right
      rw [← rd_bytesOf, hb]; simpa [rd] using hd

/-- Print undoes Parse. -/
theorem print_parse (s : ByteArray) (k : Nat) (a : Int) (h : digit_Parse.f k s = some (a, 0)) : digit_Print.f a = some s := by
  obtain ⟨h0, h1, hD, hh, rfl, hv⟩ := parse_accepts s k a h
  have hge := val_ge (bytesOf s) hD 0 (Int.le_refl _)
  have hm : mn (mx (val 0 (bytesOf s)) 0) 2147483647 = val 0 (bytesOf s) := by unfold mn mx; split <;> split <;> omega
  have hb := bytesOf_length s
  unfold digit_Print.f
  rw [hm, g_val 10 (bytesOf s) [] hD (by intro e; rw [e] at hb; simp at hb; omega) ?_ (by omega), List.append_nil, strOf_bytesOf]
  rcases hh with hh | hh
  · left; omega
  · right
    obtain ⟨r, hr⟩ := bt0 s h0
    exact ⟨_, r, hr, hh⟩

theorem runF_ge (p : Int → Bool) (s : ByteArray) : ∀ (d : Nat) (i : Int), (s.size : Int) - i ≤ d → i ≤ runF p s i := by
  intro d
  induction d with
  | zero => intro i h; rw [runF_end p s i (by omega)]; exact Int.le_refl _
  | succ d ih =>
    intro i h
    by_cases h1 : i < (s.size : Int)
    · rw [runF_step p s i h1]
      split
      · have := ih (i + 1) (by omega); omega
      · exact Int.le_refl _
    · rw [runF_end p s i (by omega)]; exact Int.le_refl _

theorem runF_le (p : Int → Bool) (s : ByteArray) : ∀ (d : Nat) (i : Int), (s.size : Int) - i ≤ d → i ≤ (s.size : Int) → runF p s i ≤ (s.size : Int) := by
  intro d
  induction d with
  | zero => intro i h h2; rw [runF_end p s i (by omega)]; exact h2
  | succ d ih =>
    intro i h h2
    by_cases h1 : i < (s.size : Int)
    · rw [runF_step p s i h1]
      split
      · exact ih (i + 1) (by omega) (by omega)
      · exact h2
    · rw [runF_end p s i (by omega)]; exact h2

/-- What one token adds. -/
def addT (out : List S31) (feed : Int) (t : S31) : List S31 := (if 0 ≤ feed ∧ 0 < out.length then out ++ [(⟨5, (⟨#[10]⟩ : ByteArray), 0, feed⟩ : S31)] else out) ++ [t]

theorem signN_cases (r : ByteArray) : signN r = 0 ∨ signN r = 1 ∨ signN r = 2 ∧ 1 < r.size := by
  unfold signN
  split
  · rename_i h; exact .inr (.inr ⟨rfl, h.1⟩)
  · split <;> simp

theorem skipF_props (s : ByteArray) : ∀ (d : Nat) (i l : Int), (s.size : Int) - i ≤ d → i ≤ (s.size : Int) →
    i ≤ (skipF s i l).1 ∧ (skipF s i l).1 ≤ (s.size : Int) ∧ ((skipF s i l).1 < (s.size : Int) → bt s (skipF s i l).1 ≠ 10 ∧ ¬ (bt s (skipF s i l).1 = 32 ∨ bt s (skipF s i l).1 = 9 ∨ bt s (skipF s i l).1 = 13)) := by
  intro d
  induction d with
  | zero =>
    intro i l h h2
    rw [skipF_end s i l (by omega)]
    exact ⟨Int.le_refl _, h2, fun h3 => absurd h3 (by simp only []; omega)⟩
  | succ d ih =>
    intro i l h h2
    by_cases h1 : i < (s.size : Int)
    · rw [skipF_step s i l h1]
      by_cases a : bt s i = 10
      · rw [if_pos a]
        obtain ⟨x, y, z⟩ := ih (i + 1) (if l < 0 then i else l) (by omega) (by omega)
        exact ⟨by omega, y, z⟩
      · rw [if_neg a]
        by_cases b : bt s i = 32 ∨ bt s i = 9 ∨ bt s i = 13
        · rw [if_pos b]
          obtain ⟨x, y, z⟩ := ih (i + 1) l (by omega) (by omega)
          exact ⟨by omega, y, z⟩
        · rw [if_neg b]
          exact ⟨Int.le_refl _, h2, fun _ => ⟨a, b⟩⟩
    · rw [skipF_end s i l (by omega)]
      exact ⟨Int.le_refl _, h2, fun h3 => absurd h3 (by simp only []; omega)⟩

theorem resv_short (x : ByteArray) (h : resvB x = true) : x.size ≤ 7 := by
  unfold resvB at h
  obtain ⟨t, ht, he⟩ := List.any_eq_true.1 h
  have e := tl_inj (beq_iff_eq.1 he)
  have h7 : ∀ t ∈ resvL, t.size ≤ 7 := by decide +kernel
  rw [← e]
  exact h7 t ht

theorem add_len (out : List S31) (feed : Int) (t : S31) : (addT out feed t).length ≤ out.length + 2 ∧ out.length + 1 ≤ (addT out feed t).length := by
  unfold addT
  split <;> simp

theorem piece_of (k : Nat) (s : ByteArray) (at_ fr ln kd : Int) (ts : ByteArray) (tn tp er : Int) (r : PR) (h0 : 0 ≤ at_) (h1 : at_ ≤ (s.size : Int)) (h2 : s.size ≤ 140737488351232) (h : startR k s at_ fr ln kd ts tn tp er = some r) :
    token_scanner_piece.f k s at_ fr ln kd ts tn tp er = some (r.1, s, r.2) := by
  unfold token_scanner_piece.f
  rw [if_pos ⟨h0, h1, h2⟩, h]

theorem allG_tok (a0 s : ByteArray) (n : Nat) (l : List S31) (at_ fr kd : Int) (ts : ByteArray) (tn tp er at' fr' ln' kd' : Int) (ts' : ByteArray) (tn' tp' er' : Int) (hl : l.length + 2 < 3518437208883) (h0 : 0 ≤ at_) (h1 : at_ ≤ (s.size : Int)) (h2 : s.size ≤ 140737488351232)
    (h : startR 20 s at_ fr (-1) kd ts tn tp er = some (true, at', fr', ln', kd', ts', tn', tp', er')) :
    allG a0 (n + 1) l s at_ fr kd ts tn tp er = allG a0 n (addT l ln' ⟨kd', ts', tn', tp'⟩) s at' fr' kd' ts' tn' tp' er' := by
  rw [allG, piece_of 20 s at_ fr (-1) kd ts tn tp er _ h0 h1 h2 h]
  simp only [if_true]
  rw [if_pos hl]
  rfl

theorem allG_stop (a0 s : ByteArray) (n : Nat) (l : List S31) (at_ fr kd : Int) (ts : ByteArray) (tn tp er at' fr' ln' kd' : Int) (ts' : ByteArray) (tn' tp' er' : Int) (h0 : 0 ≤ at_) (h1 : at_ ≤ (s.size : Int)) (h2 : s.size ≤ 140737488351232)
    (h : startR 20 s at_ fr (-1) kd ts tn tp er = some (false, at', fr', ln', kd', ts', tn', tp', er')) :
    allG a0 (n + 1) l s at_ fr kd ts tn tp er = if er' = 0 then some (l, (a0.size : Int), 0) else some ([], fr', er') := by
  rw [allG, piece_of 20 s at_ fr (-1) kd ts tn tp er _ h0 h1 h2 h]
  simp only [Bool.false_eq_true, if_false]

theorem ext_size (s : ByteArray) (a b : Int) (h0 : 0 ≤ a) (h1 : a ≤ b) (h2 : b ≤ (s.size : Int)) : ((s.extract a.toNat b.toNat).size : Int) = b - a := by
  rw [ByteArray.size_extract]; omega

/-! what lies at a place of a text -/
/-- From i on, s holds u. -/
def Lies (s : ByteArray) (i : Int) (u : ByteArray) : Prop := i + (u.size : Int) ≤ (s.size : Int) ∧ ∀ j : Int, 0 ≤ j → j < (u.size : Int) → bt s (i + j) = bt u j
theorem bt_get (s : ByteArray) (i : Int) (h0 : 0 ≤ i) (h1 : i < (s.size : Int)) : ∃ h : i.toNat < s.data.toList.length, bt s i = ((s.data.toList[i.toNat]'h).toNat : Int) := by
  have hl := dlen s
  have h : i.toNat < s.data.toList.length := by omega
  refine ⟨h, ?_⟩
  rw [bt_eq, List.getElem?_eq_getElem h]
  rfl
theorem lies_extract (s : ByteArray) (i : Int) (u : ByteArray) (h0 : 0 ≤ i) (h : Lies s i u) : s.extract i.toNat (i + (u.size : Int)).toNat = u := by
  obtain ⟨h1, h2⟩ := h
  have hl := dlen s
  have hu := dlen u
  apply ext
  rw [dext]
  apply List.ext_getElem
  · rw [List.length_drop, List.length_take]; omega
  · intro j p q
    have hj : (j : Int) < (u.size : Int) := by omega
    obtain ⟨a, ha⟩ := bt_get s (i + j) (by omega) (by omega)
    obtain ⟨b, hb⟩ := bt_get u j (by omega) hj
    have e := h2 j (by omega) hj
    rw [ha, hb] at e
    have e2 : (s.data.toList[(i + (j : Int)).toNat]'a) = (u.data.toList[(j : Int).toNat]'b) := UInt8.toNat_inj.1 (by omega)
    simp only [List.getElem_drop, List.getElem_take]
    have e3 : (i + (j : Int)).toNat = i.toNat + j := by omega
    simpa [e3] using e2
theorem lies_sub (s : ByteArray) (i : Int) (u : ByteArray) (a b : Int) (h0 : 0 ≤ a) (h1 : a ≤ b) (h2 : b ≤ (u.size : Int)) (h : Lies s i u) : Lies s (i + a) (u.extract a.toNat b.toNat) := by
  have hz := ext_size u a b h0 h1 h2
  refine ⟨by have := h.1; omega, fun j p q => ?_⟩
  have e := h.2 (a + j) (by omega) (by omega)
  rw [Int.add_assoc, e]
  obtain ⟨x, hx⟩ := bt_get u (a + j) (by omega) (by omega)
  obtain ⟨y, hy⟩ := bt_get (u.extract a.toNat b.toNat) j p q
  rw [hx, hy]
  have : (u.extract a.toNat b.toNat).data.toList = (u.data.toList.take b.toNat).drop a.toNat := dext _ _ _
  simp only [this, List.getElem_drop, List.getElem_take]
  congr 2
  congr 1
  omega
theorem lies_refl (s : ByteArray) : Lies s 0 s := ⟨by omega, fun j _ _ => by rw [Int.zero_add]⟩
theorem bt_app_l (a b : ByteArray) (j : Int) (h0 : 0 ≤ j) (h1 : j < (a.size : Int)) : bt (a ++ b) j = bt a j := by
  have hl := dlen a
  rw [bt_eq, bt_eq, dapp, List.getElem?_append_left (by omega)]
theorem bt_app_r (a b : ByteArray) (j : Int) (h0 : 0 ≤ j) : bt (a ++ b) ((a.size : Int) + j) = bt b j := by
  have hl := dlen a
  rw [bt_eq, bt_eq, dapp, List.getElem?_append_right (by omega)]
  congr 3
  omega
theorem lies_app (s : ByteArray) (i : Int) (a b : ByteArray) (h : Lies s i (a ++ b)) : Lies s i a ∧ Lies s (i + (a.size : Int)) b := by
  have hz : ((a ++ b).size : Int) = (a.size : Int) + (b.size : Int) := by rw [ByteArray.size_append]; omega
  obtain ⟨h1, h2⟩ := h
  refine ⟨⟨by omega, fun j p q => ?_⟩, ⟨by omega, fun j p q => ?_⟩⟩
  · rw [h2 j p (by omega), bt_app_l a b j p q]
  · rw [Int.add_assoc, h2 _ (by omega) (by omega), bt_app_r a b j p]
theorem run_to (p : Int → Bool) (s : ByteArray) : ∀ (d : Nat) (i e : Int), i ≤ e → e - i = d → e < (s.size : Int) → (∀ j, i ≤ j → j < e → p (bt s j) = true) → p (bt s e) = false → runF p s i = e := by
  intro d
  induction d with
  | zero =>
    intro i e h1 h2 h3 h4 h5
    obtain rfl : i = e := by omega
    rw [runF_step p s i h3, if_neg (by rw [h5]; decide)]
  | succ d ih =>
    intro i e h1 h2 h3 h4 h5
    rw [runF_step p s i (by omega), if_pos (h4 i (Int.le_refl _) (by omega))]
    exact ih (i + 1) e (by omega) (by omega) h3 (fun j a b => h4 j (by omega) b) h5
theorem run_all (p : Int → Bool) (s : ByteArray) : ∀ (d : Nat) (i : Int), (s.size : Int) - i ≤ d → ∀ j, i ≤ j → j < runF p s i → p (bt s j) = true := by
  intro d
  induction d with
  | zero => intro i h j a b; rw [runF_end p s i (by omega)] at b; omega
  | succ d ih =>
    intro i h j a b
    by_cases h1 : i < (s.size : Int)
    · rw [runF_step p s i h1] at b
      split at b
      · rename_i hp
        by_cases e : j = i
        · rw [e]; exact hp
        · exact ih (i + 1) (by omega) j (by omega) b
      · omega
    · rw [runF_end p s i (by omega)] at b; omega

/-! one token read again -/
def txt (t : S31) : ByteArray := if t.f0 = 4 then (digit_Print.f t.f2).getD ByteArray.empty else t.f1
theorem text_is (t : S31) : token_Text.f t.f0 t.f1 t.f2 t.f3 = some (txt t) := by
  unfold token_Text.f txt
  by_cases h : t.f0 = 4
  · rw [if_pos h, if_pos h]; rfl
  · rw [if_neg h, if_neg h]
def Stop (c : Int) : Prop := c ≠ 10 ∧ ¬ (c = 32 ∨ c = 9 ∨ c = 13)
def GoodN (t : S31) : Prop := 0 < t.f1.size ∧ letB (bt t.f1 0) = true ∧ (∀ j : Int, 0 ≤ j → j < (t.f1.size : Int) → wordB (bt t.f1 j) = true) ∧ namedE t.f1 0 = 0 ∧ t.f0 = namedK t.f1 ∧ t.f2 = 0
def GoodD (t : S31) : Prop := t.f0 = 4 ∧ t.f1 = ByteArray.empty ∧ 0 ≤ t.f2 ∧ t.f2 ≤ 2147483647
def GoodS (t : S31) : Prop := t.f0 = 5 ∧ t.f2 = 0 ∧ letB (bt t.f1 0) = false ∧ numB (bt t.f1 0) = false ∧ Stop (bt t.f1 0) ∧ (t.f1.size = 2 ∧ (twoL.any fun x => decide (t.f1.toList = x)) = true ∨ t.f1.size = 1 ∧ 0 ≤ oneI (bt t.f1 0))
def Good (t : S31) : Prop := GoodN t ∨ GoodD t ∨ GoodS t
theorem startR_at (k : Nat) (s : ByteArray) (i fr ln kd : Int) (ts : ByteArray) (tn tp er : Int) (h1 : i < (s.size : Int)) (hc : Stop (bt s i)) :
    startR k s i fr ln kd ts tn tp er = if letB (bt s i) = true then nameR s (runF wordB s (i + 1)) i ln er else if numB (bt s i) = true then digR k s (runF numB s (i + 1)) i ln else signR s i ln er := by
  unfold startR
  rw [skipF_step s i ln h1, if_neg hc.1, if_neg hc.2]
  unfold atR
  rw [if_neg (by simp only []; omega)]
theorem numB_iff (c : Int) : numB c = true ↔ 48 ≤ c ∧ c ≤ 57 := by
  unfold numB token_num.f
  by_cases h : c ≥ 48
  · rw [if_pos h]; simp; omega
  · rw [if_neg h]; simp; omega
theorem letB_iff (c : Int) : letB c = true ↔ (97 ≤ c ∧ c ≤ 122) ∨ (65 ≤ c ∧ c ≤ 90) ∨ c = 95 := by
  unfold letB token_letter.f
  by_cases a : c ≥ 97 <;> by_cases b : c ≤ 122 <;> by_cases d : c ≥ 65 <;> by_cases e : c ≤ 90 <;> simp [a, b, d, e] <;> omega
theorem stop_let (c : Int) (h : letB c = true) : Stop c := by
  have := (letB_iff c).1 h
  unfold Stop
  omega
theorem stop_num (c : Int) (h : numB c = true) : Stop c := by
  have := (numB_iff c).1 h
  unfold Stop
  omega
theorem read_name (S : ByteArray) (i : Int) (t : S31) (g : GoodN t) (h0 : 0 ≤ i) (hL : Lies S i t.f1) (h1 : i + (t.f1.size : Int) < (S.size : Int)) (hb : bt S (i + (t.f1.size : Int)) = 32) (k : Nat) (fr ln kd : Int) (ts : ByteArray) (tn tp : Int) :
    startR k S i fr ln kd ts tn tp 0 = some (true, i + (t.f1.size : Int), i, ln, t.f0, t.f1, t.f2, i, 0) := by
  obtain ⟨gz, gl, gw, ge, gk, g2⟩ := g
  have e0 : bt S i = bt t.f1 0 := by have := hL.2 0 (by omega) (by omega); rwa [Int.add_zero] at this
  rw [startR_at k S i fr ln kd ts tn tp 0 (by omega) (by rw [e0]; exact stop_let _ gl), e0, if_pos gl]
  have hr : runF wordB S (i + 1) = i + (t.f1.size : Int) := by
    refine run_to wordB S ((t.f1.size : Int) - 1).toNat (i + 1) _ (by omega) (by omega) h1 (fun j a b => ?_) (by rw [hb]; rfl)
    have := hL.2 (j - i) (by omega) (by omega)
    rw [show i + (j - i) = j by omega] at this
    rw [this]
    exact gw _ (by omega) (by omega)
  rw [hr]
  unfold nameR
  rw [lies_extract S i t.f1 h0 hL, ge, gk, g2]
  rfl
theorem read_num (S : ByteArray) (i : Int) (t : S31) (g : GoodD t) (h0 : 0 ≤ i) (u : ByteArray) (hu : digit_Print.f t.f2 = some u) (hp : ∀ k, 20 ≤ k → digit_Parse.f k u = some (t.f2, 0)) (hL : Lies S i u) (h1 : i + (u.size : Int) < (S.size : Int)) (hb : bt S (i + (u.size : Int)) = 32) (k : Nat) (hk : 20 ≤ k) (fr ln kd : Int) (ts : ByteArray) (tn tp : Int) :
    0 < u.size ∧ u.size ≤ 10 ∧ Stop (bt u 0) ∧ startR k S i fr ln kd ts tn tp 0 = some (true, i + (u.size : Int), i, ln, t.f0, t.f1, t.f2, i, 0) := by
  obtain ⟨g0, gs, g2, g3⟩ := g
  obtain ⟨a1, a2, aD, _⟩ := parse_accepts u 20 t.f2 (hp 20 (by omega))
  have hd : ∀ j : Int, 0 ≤ j → j < (u.size : Int) → numB (bt u j) = true := fun j p q => by
    rw [numB_iff]
    apply aD
    have hlb := bytesOf_length u
    rw [← rd_bytesOf]
    unfold rd
    rw [List.getD_eq_getElem?_getD, List.getElem?_eq_getElem (by omega)]
    exact List.getElem_mem _
  have gn := hd 0 (by omega) (by omega)
  have gl : letB (bt u 0) = false := by
    cases h : letB (bt u 0) with
    | false => rfl
    | true =>
      have x := (letB_iff _).1 h
      have y := (numB_iff _).1 gn
      omega
  have e0 : bt S i = bt u 0 := by have := hL.2 0 (by omega) (by omega); rwa [Int.add_zero] at this
  refine ⟨a1, a2, stop_num _ gn, ?_⟩
  rw [startR_at k S i fr ln kd ts tn tp 0 (by omega) (by rw [e0]; exact stop_num _ gn), e0, if_neg (by rw [gl]; decide), if_pos gn]
  have hr : runF numB S (i + 1) = i + (u.size : Int) := by
    refine run_to numB S ((u.size : Int) - 1).toNat (i + 1) _ (by omega) (by omega) h1 (fun j a b => ?_) (by rw [hb]; rfl)
    have := hL.2 (j - i) (by omega) (by omega)
    rw [show i + (j - i) = j by omega] at this
    rw [this]
    exact hd _ (by omega) (by omega)
  rw [hr]
  unfold digR
  rw [lies_extract S i u h0 hL, hp k hk, g0, gs]
  rfl
theorem read_sign (S : ByteArray) (i : Int) (t : S31) (g : GoodS t) (h0 : 0 ≤ i) (hL : Lies S i t.f1) (h1 : i + (t.f1.size : Int) < (S.size : Int)) (hb : bt S (i + (t.f1.size : Int)) = 32) (k : Nat) (fr ln kd : Int) (ts : ByteArray) (tn tp : Int) :
    startR k S i fr ln kd ts tn tp 0 = some (true, i + (t.f1.size : Int), i, ln, t.f0, t.f1, t.f2, i, 0) := by
  obtain ⟨g0, g2, gl, gn, gs, gt⟩ := g
  have hz : 0 < t.f1.size := by omega
  have e0 : bt S i = bt t.f1 0 := by have := hL.2 0 (by omega) (by omega); rwa [Int.add_zero] at this
  have hR : (S.extract i.toNat S.size).size = S.size - i.toNat := by rw [ByteArray.size_extract]; omega
  have hbR : ∀ j : Int, 0 ≤ j → j < (S.size : Int) - i → bt (S.extract i.toNat S.size) j = bt S (i + j) := fun j p q => by
    obtain ⟨x, hx⟩ := bt_get (S.extract i.toNat S.size) j p (by omega)
    obtain ⟨y, hy⟩ := bt_get S (i + j) (by omega) (by omega)
    rw [hx, hy]
    have : (S.extract i.toNat S.size).data.toList = (S.data.toList.take S.size).drop i.toNat := dext _ _ _
    simp only [this, List.getElem_drop, List.getElem_take]
    congr 2
    congr 1
    omega
  have hu : (S.extract i.toNat S.size).extract 0 t.f1.size = t.f1 := by
    have hl2 : Lies (S.extract i.toNat S.size) 0 t.f1 := ⟨by omega, fun j p q => by rw [Int.zero_add, hbR j p (by omega)]; exact hL.2 j p q⟩
    have := lies_extract _ 0 t.f1 (by omega) hl2
    rwa [Int.zero_add, Int.toNat_natCast] at this
  have hb0 : bt (S.extract i.toNat S.size) 0 = bt t.f1 0 := by rw [hbR 0 (by omega) (by omega), Int.add_zero, e0]
  have hm : signN (S.extract i.toNat S.size) = (t.f1.size : Int) := by
    unfold signN
    rcases gt with ⟨z, ht⟩ | ⟨z, ht⟩
    · rw [z] at hu
      rw [if_pos ⟨by omega, by rw [hu]; exact ht⟩, z]
      rfl
    · rw [if_neg ?_, hb0, if_pos ht, z]
      · rfl
      · rintro ⟨x1, x2⟩
        obtain ⟨y, hy, he⟩ := List.any_eq_true.1 x2
        have he := of_decide_eq_true he
        have hb1 : bt (S.extract i.toNat S.size) 1 = 32 := by rw [hbR 1 (by omega) (by omega), ← hb, z]; rfl
        obtain ⟨p, hp⟩ := bt_get (S.extract i.toNat S.size) 1 (by omega) (by omega)
        have h2 : ∀ y ∈ twoL, y[1]? ≠ some 32 := by decide +kernel
        refine h2 y hy ?_
        rw [← he, tl, dext0, List.getElem?_take]
        rw [if_pos (by omega), List.getElem?_eq_getElem (by have := dlen (S.extract i.toNat S.size); omega)]
        congr 1
        apply UInt8.toNat_inj.1
        have hpp : ((S.extract i.toNat S.size).data.toList[(1 : Int).toNat]'p).toNat = 32 := by omega
        exact hpp
  rw [startR_at k S i fr ln kd ts tn tp 0 (by omega) (by rw [e0]; exact gs), e0, if_neg (by rw [gl]; decide), if_neg (by rw [gn]; decide)]
  unfold signR
  rw [hm, if_neg (by omega), Int.toNat_natCast, hu, g0, g2]
/-- Any good token, read at a place where its text and a blank lie. -/
theorem read_tok (S : ByteArray) (i : Int) (t : S31) (g : Good t) (h0 : 0 ≤ i) (hL : Lies S i (txt t ++ (⟨#[32]⟩ : ByteArray))) :
    0 < (txt t).size ∧ ∀ (fr ln kd : Int) (ts : ByteArray) (tn tp : Int), startR 20 S i fr ln kd ts tn tp 0 = some (true, i + ((txt t).size : Int), i, ln, t.f0, t.f1, t.f2, i, 0) := by
  obtain ⟨hl, hb⟩ := lies_app S i _ _ hL
  have hb1 : bt S (i + ((txt t).size : Int)) = 32 := by have := hb.2 0 (by omega) (by decide); rw [Int.add_zero] at this; rw [this]; rfl
  have h1 : i + ((txt t).size : Int) < (S.size : Int) := by have := hb.1; have e : (⟨#[32]⟩ : ByteArray).size = 1 := rfl; omega
  rcases g with g | g | g
  · have e : txt t = t.f1 := by
      unfold txt
      rw [if_neg (by rw [g.2.2.2.2.1]; unfold namedK; split <;> decide)]
    rw [e] at hl hb1 h1 ⊢
    exact ⟨g.1, fun fr ln kd ts tn tp => read_name S i t g h0 hl h1 hb1 20 fr ln kd ts tn tp⟩
  · obtain ⟨u, hu, hp⟩ := parse_print t.f2 g.2.2.1 g.2.2.2
    have e : txt t = u := by
      unfold txt
      rw [if_pos g.1, hu]
      rfl
    rw [e] at hl hb1 h1 ⊢
    exact ⟨(read_num S i t g h0 u hu hp hl h1 hb1 20 (by omega) 0 0 0 ⟨#[]⟩ 0 0).1, fun fr ln kd ts tn tp => (read_num S i t g h0 u hu hp hl h1 hb1 20 (by omega) fr ln kd ts tn tp).2.2.2⟩
  · have e : txt t = t.f1 := by
      unfold txt
      rw [if_neg (by rw [g.1]; decide)]
    rw [e] at hl hb1 h1 ⊢
    exact ⟨by rcases g.2.2.2.2.2 with ⟨z, _⟩ | ⟨z, _⟩ <;> omega, fun fr ln kd ts tn tp => read_sign S i t g h0 hl h1 hb1 20 fr ln kd ts tn tp⟩

/-! groups of tokens: a token, and perhaps a line feed ahead of it -/
abbrev Gp := Option Int × S31
def feedT (p : Int) : S31 := ⟨5, (⟨#[10]⟩ : ByteArray), 0, p⟩
def gl (g : Gp) : List S31 := match g.1 with | some p => [feedT p, g.2] | none => [g.2]
def flat (gs : List Gp) : List S31 := gs.flatMap gl
def joinL : List S31 → ByteArray
  | [] => ⟨#[]⟩
  | t :: l => (txt t ++ (⟨#[32]⟩ : ByteArray)) ++ joinL l
theorem flat_cons (g : Gp) (gs : List Gp) : flat (g :: gs) = gl g ++ flat gs := rfl
theorem startR_blank (k : Nat) (s : ByteArray) (i fr ln kd : Int) (ts : ByteArray) (tn tp er : Int) (h1 : i < (s.size : Int)) (hc : bt s i = 32) : startR k s i fr ln kd ts tn tp er = startR k s (i + 1) fr ln kd ts tn tp er := by
  unfold startR
  rw [skipF_step s i ln h1, if_neg (by omega), if_pos (.inl hc)]
theorem startR_line (k : Nat) (s : ByteArray) (i fr ln kd : Int) (ts : ByteArray) (tn tp er : Int) (h1 : i < (s.size : Int)) (hc : bt s i = 10) (hl : ln < 0) : startR k s i fr ln kd ts tn tp er = startR k s (i + 1) fr i kd ts tn tp er := by
  unfold startR
  rw [skipF_step s i ln h1, if_pos hc, if_pos hl]
def key (t : S31) : Int × ByteArray × Int := (t.f0, t.f1, t.f2)
theorem reread (S : ByteArray) (hS : S.size ≤ 1000000) : ∀ (gs : List Gp), (∀ g ∈ gs, Good g.2) → ∀ (n : Nat) (e i : Int) (acc : List S31) (fr kd : Int) (ts : ByteArray) (tn tp : Int),
    0 ≤ e → e ≤ (S.size : Int) → 0 ≤ i → (∀ fr kd ts tn tp, startR 20 S e fr (-1) kd ts tn tp 0 = startR 20 S i fr (-1) kd ts tn tp 0) → i + ((joinL (flat gs)).size : Int) = (S.size : Int) → Lies S i (joinL (flat gs)) → gs.length < n →
    acc.length + 2 * gs.length + 2 < 3518437208883 → (acc = [] → ∀ g gs', gs = g :: gs' → g.1 = none) →
    ∃ l', allG S n acc S e fr kd ts tn tp 0 = some (acc ++ l', (S.size : Int), 0) ∧ l'.map key = (flat gs).map key := by
  intro gs
  induction gs with
  | nil =>
    intro _ n e i acc fr kd ts tn tp h0 h1 hi hE hz _ hn _ _
    obtain ⟨n, rfl⟩ : ∃ m, n = m + 1 := ⟨n - 1, by omega⟩
    have hi2 : (S.size : Int) ≤ i := by have z : (((joinL (flat ([] : List Gp))).size : Nat) : Int) = 0 := rfl; omega
    refine ⟨[], ?_, rfl⟩
    have hst : startR 20 S e fr (-1) kd ts tn tp 0 = some (false, i, fr, -1, kd, ts, tn, tp, 0) := by
      rw [hE]
      unfold startR
      rw [skipF_end S i (-1) hi2]
      unfold atR
      rw [if_pos (by simp only []; omega)]
    rw [allG_stop S S n acc e fr kd ts tn tp 0 _ _ _ _ _ _ _ _ h0 h1 (by omega) hst, if_pos rfl, List.append_nil]
  | cons g gs ih =>
    intro hg n e i acc fr kd ts tn tp h0 h1 hi hE hz hL hn hlen hfirst
    obtain ⟨n, rfl⟩ : ∃ m, n = m + 1 := ⟨n - 1, by omega⟩
    have gg := hg g List.mem_cons_self
    have hih := ih (fun x hx => hg x (List.mem_cons_of_mem _ hx)) n
    clear ih
    obtain ⟨fp, t⟩ := g
    simp only [List.length_cons] at hn hlen
    rw [flat_cons] at hz hL ⊢
    -- the token's own place and line
    have main : ∀ (q ln : Int) (acc' : List S31), 0 ≤ q → (∀ fr kd ts tn tp, startR 20 S e fr (-1) kd ts tn tp 0 = startR 20 S q fr ln kd ts tn tp 0) → Lies S q ((txt t ++ (⟨#[32]⟩ : ByteArray)) ++ joinL (flat gs)) → q + ((((txt t ++ (⟨#[32]⟩ : ByteArray)) ++ joinL (flat gs)).size : Nat) : Int) = (S.size : Int) →
        (∀ t', addT acc ln t' = acc' ++ [t']) → acc'.length ≤ acc.length + 1 → ∃ l', allG S (n + 1) acc S e fr kd ts tn tp 0 = some (acc' ++ l', (S.size : Int), 0) ∧ l'.map key = key t :: (flat gs).map key := by
      intro q ln acc' hq hEq hLq hzq hadd hacc
      obtain ⟨hl1, hl2⟩ := lies_app S q _ _ hLq
      obtain ⟨hpos, hread⟩ := read_tok S q t gg hq hl1
      have hb := (lies_app S q _ _ hl1).2
      have hb1 : bt S (q + ((txt t).size : Int)) = 32 := by have := hb.2 0 (by omega) (by decide); rw [Int.add_zero] at this; rw [this]; rfl
      have hb2 : q + ((txt t).size : Int) < (S.size : Int) := by have := hb.1; have e : (⟨#[32]⟩ : ByteArray).size = 1 := rfl; omega
      have e1 : (((txt t ++ (⟨#[32]⟩ : ByteArray)).size : Nat) : Int) = ((txt t).size : Int) + 1 := by rw [ByteArray.size_append]; rfl
      rw [e1] at hl2
      have e2 : ((((txt t ++ (⟨#[32]⟩ : ByteArray)) ++ joinL (flat gs)).size : Nat) : Int) = ((txt t).size : Int) + 1 + ((joinL (flat gs)).size : Int) := by rw [ByteArray.size_append, ← e1]; omega
      have hst := (hEq fr kd ts tn tp).trans (hread fr ln kd ts tn tp)
      rw [allG_tok S S n acc e fr kd ts tn tp 0 _ _ _ _ _ _ _ _ (by omega) h0 h1 (by omega) hst, hadd]
      obtain ⟨l', hr, hk⟩ := hih (q + ((txt t).size : Int)) (q + (((txt t).size : Int) + 1)) (acc' ++ [⟨t.f0, t.f1, t.f2, q⟩]) q t.f0 t.f1 t.f2 q (by omega) (by omega) (by omega)
        (fun fr kd ts tn tp => by rw [startR_blank 20 S _ fr (-1) kd ts tn tp 0 hb2 hb1, Int.add_assoc]) (by omega) hl2 (by omega) (by rw [List.length_append]; simp only [List.length_cons, List.length_nil]; omega) (fun h => absurd h (by simp))
      refine ⟨⟨t.f0, t.f1, t.f2, q⟩ :: l', ?_, ?_⟩
      · rw [hr, List.append_assoc]; rfl
      · rw [List.map_cons, hk]; rfl
    cases fp with
    | none =>
      obtain ⟨l', hr, hk⟩ := main i (-1) acc hi (fun fr kd ts tn tp => hE fr kd ts tn tp) hL hz (fun t' => by unfold addT; rw [if_neg (by omega)]) (by omega)
      exact ⟨l', hr, by rw [hk]; rfl⟩
    | some p =>
      have hne : 0 < acc.length := by
        cases acc with
        | nil => exact absurd (hfirst rfl _ _ rfl) (by simp)
        | cons a l => simp
      have hf : txt (feedT p) = (⟨#[10]⟩ : ByteArray) := rfl
      have hL' : Lies S i ((txt (feedT p) ++ (⟨#[32]⟩ : ByteArray)) ++ ((txt t ++ (⟨#[32]⟩ : ByteArray)) ++ joinL (flat gs))) := hL
      obtain ⟨a1, a2⟩ := lies_app S i _ _ hL'
      have z2 : (((txt (feedT p) ++ (⟨#[32]⟩ : ByteArray)).size : Nat) : Int) = 2 := rfl
      rw [z2] at a2
      have b0 : bt S i = 10 := by have := a1.2 0 (by omega) (by omega); rw [Int.add_zero] at this; rw [this]; rfl
      have b1 : bt S (i + 1) = 32 := by rw [a1.2 1 (by omega) (by omega)]; rfl
      have b2 : i + 2 ≤ (S.size : Int) := by have := a1.1; omega
      have hz' : i + 2 + ((((txt t ++ (⟨#[32]⟩ : ByteArray)) ++ joinL (flat gs)).size : Nat) : Int) = (S.size : Int) := by
        have : ((joinL (gl (some p, t) ++ flat gs)).size : Int) = 2 + ((((txt t ++ (⟨#[32]⟩ : ByteArray)) ++ joinL (flat gs)).size : Nat) : Int) := by
          show (((((txt (feedT p) ++ (⟨#[32]⟩ : ByteArray)) ++ ((txt t ++ (⟨#[32]⟩ : ByteArray)) ++ joinL (flat gs))).size : Nat)) : Int) = _
          rw [ByteArray.size_append, Int.natCast_add, z2]
        omega
      obtain ⟨l', hr, hk⟩ := main (i + 2) i (acc ++ [feedT i]) (by omega)
        (fun fr kd ts tn tp => by rw [hE, startR_line 20 S i fr (-1) kd ts tn tp 0 (by omega) b0 (by omega), startR_blank 20 S (i + 1) fr i kd ts tn tp 0 (by omega) b1, Int.add_assoc]; rfl) a2 hz'
        (fun t' => by unfold addT; rw [if_pos ⟨hi, hne⟩]; rfl) (by simp)
      refine ⟨feedT i :: l', ?_, ?_⟩
      · rw [hr, List.append_assoc]; rfl
      · rw [List.map_cons, hk]; rfl

/-! what the first reading leaves -/
theorem lies_of (s : ByteArray) (a b : Int) (h0 : 0 ≤ a) (h1 : a ≤ b) (h2 : b ≤ (s.size : Int)) : Lies s a (s.extract a.toNat b.toNat) := by
  have := lies_sub s 0 s a b h0 h1 h2 (lies_refl s)
  rwa [Int.zero_add] at this
def Rise (l : List S31) (at_ : Int) : Prop := l.Pairwise (fun x y => x.f3 < y.f3) ∧ ∀ t ∈ l, t.f3 < at_
theorem rise_mono {l : List S31} {a b : Int} (h : Rise l a) (hab : a ≤ b) : Rise l b := ⟨h.1, fun t ht => by have := h.2 t ht; omega⟩
theorem rise_snoc {l : List S31} {a : Int} (h : Rise l a) (t : S31) (h1 : a ≤ t.f3) (b : Int) (h2 : t.f3 < b) : Rise (l ++ [t]) b := by
  refine ⟨List.pairwise_append.2 ⟨h.1, List.pairwise_singleton _ _, fun x hx y hy => ?_⟩, fun x hx => ?_⟩
  · rw [List.mem_singleton.1 hy]
    have := h.2 x hx
    omega
  · rcases List.mem_append.1 hx with hx | hx
    · have := h.2 x hx; omega
    · rw [List.mem_singleton.1 hx]; exact h2
theorem rise_add {l : List S31} {a f p : Int} (h : Rise l a) (t : S31) (hf : f = -1 ∨ a ≤ f ∧ f < p) (hp : t.f3 = p) (hap : a ≤ p) (b : Int) (hb : p < b) : Rise (addT l f t) b := by
  unfold addT
  split
  · rename_i c
    rcases hf with hf | hf
    · omega
    · exact rise_snoc (rise_snoc h ⟨5, ⟨#[10]⟩, 0, f⟩ hf.1 p hf.2) t (by omega) b (by omega)
  · exact rise_snoc h t (by omega) b (by omega)
/-- The group that one token adds. -/
def gpOf (l : List S31) (f : Int) (t : S31) : Gp := (if 0 ≤ f ∧ 0 < l.length then some f else none, t)
theorem add_gp (l : List S31) (f : Int) (t : S31) : addT l f t = l ++ gl (gpOf l f t) := by
  unfold addT gpOf gl
  split
  · rw [List.append_assoc]; rfl
  · rfl
theorem skip_line (s : ByteArray) : ∀ (d : Nat) (i l : Int), 0 ≤ i → (s.size : Int) - i ≤ d → (l = -1 → (skipF s i l).2 = -1 ∨ i ≤ (skipF s i l).2 ∧ (skipF s i l).2 < (skipF s i l).1) ∧ (0 ≤ l → l < i → (skipF s i l).2 = l) := by
  intro d
  induction d with
  | zero =>
    intro i l hi h
    rw [skipF_end s i l (by omega)]
    exact ⟨fun h => .inl h, fun _ _ => rfl⟩
  | succ d ih =>
    intro i l hi h
    by_cases h1 : i < (s.size : Int)
    · rw [skipF_step s i l h1]
      by_cases a : bt s i = 10
      · rw [if_pos a]
        refine ⟨fun hl => ?_, fun h2 h3 => ?_⟩
        · rw [if_pos (by omega)]
          have h2 := (ih (i + 1) i (by omega) (by omega)).2 hi (by omega)
          rw [h2]
          have := (skipF_props s ((s.size : Int) - (i + 1)).toNat (i + 1) i (by omega) (by omega)).1
          exact .inr ⟨Int.le_refl _, by omega⟩
        · rw [if_neg (by omega)]
          exact (ih (i + 1) l (by omega) (by omega)).2 h2 (by omega)
      · rw [if_neg a]
        by_cases b : bt s i = 32 ∨ bt s i = 9 ∨ bt s i = 13
        · rw [if_pos b]
          have := ih (i + 1) l (by omega) (by omega)
          refine ⟨fun hl => ?_, fun h2 h3 => this.2 h2 (by omega)⟩
          rcases this.1 hl with x | x
          · exact .inl x
          · exact .inr ⟨by omega, x.2⟩
        · rw [if_neg b]
          exact ⟨fun h => .inl h, fun _ _ => rfl⟩
    · rw [skipF_end s i l (by omega)]
      exact ⟨fun h => .inl h, fun _ _ => rfl⟩

theorem l0_ends (s : ByteArray) (hs : s.size ≤ 10) (d : Nat) : ∀ (k : Nat) (n i : Int), 0 ≤ i → (s.size : Int) - i ≤ d → d < k → ∃ v e, (e = 0 ∨ e = 5) ∧ digit_Parse.l0 k s n (s.size : Int) i = some (v, e) := by
  induction d with
  | zero =>
    intro k n i h0 hd hk
    obtain ⟨k, rfl⟩ : ∃ m, k = m + 1 := ⟨k - 1, by omega⟩
    rw [digit_Parse.l0, if_neg (by omega)]
    split
    · exact ⟨0, 5, .inr rfl, rfl⟩
    · exact ⟨n, 0, .inl rfl, rfl⟩
  | succ d ih =>
    intro k n i h0 hd hk
    obtain ⟨k, rfl⟩ : ∃ m, k = m + 1 := ⟨k - 1, by omega⟩
    rw [digit_Parse.l0]
    by_cases h1 : i < (s.size : Int)
    · rw [if_pos h1, if_pos h0, if_pos h1]
      split
      · exact ⟨0, 5, .inr rfl, rfl⟩
      · split
        · exact ⟨0, 5, .inr rfl, rfl⟩
        · rw [w64 (x := i + 1) (by omega) (by omega)]
          exact ih k _ (i + 1) (by omega) (by omega) (by omega)
    · rw [if_neg h1]
      split
      · exact ⟨0, 5, .inr rfl, rfl⟩
      · exact ⟨n, 0, .inl rfl, rfl⟩
theorem answers20 (s : ByteArray) : ∃ n e, (e = 0 ∨ e = 5) ∧ ∀ k, 20 ≤ k → digit_Parse.f k s = some (n, e) := by
  have hj : ∀ b : Bool, (b = true ∨ s.size ≤ 10) → ∃ n e, (e = 0 ∨ e = 5) ∧ digit_Parse.j0 20 s b = some (n, e) := fun b hb => by
    rw [digit_Parse.j0]
    cases b
    · rw [if_neg (by decide)]
      exact l0_ends s (hb.resolve_left (by decide)) 10 19 0 0 (by omega) (by have := hb.resolve_left (by decide); omega) (by omega)
    · exact ⟨0, 5, .inr rfl, rfl⟩
  have hf : ∃ b : Bool, (b = true ∨ s.size ≤ 10) ∧ digit_Parse.f 20 s = digit_Parse.j0 20 s b := by
    unfold digit_Parse.f
    by_cases h0 : (s.size : Int) = 0
    · exact ⟨true, .inl rfl, by rw [if_pos h0]⟩
    · rw [if_neg h0]
      by_cases h1 : (s.size : Int) > 10
      · exact ⟨true, .inl rfl, by rw [if_pos h1]⟩
      · rw [if_neg h1]
        by_cases h2 : (s.size : Int) > 1
        · exact ⟨bt s 0 == 48, .inr (by omega), by rw [if_pos h2, if_pos (by omega)]⟩
        · exact ⟨false, .inr (by omega), by rw [if_neg h2]⟩
  obtain ⟨b, hb, he⟩ := hf
  obtain ⟨n, e, hn, hr⟩ := hj b hb
  exact ⟨n, e, hn, fun k hk => at_rounds (digit_Parse.mono s) hk (he.trans hr)⟩

def Out (s : ByteArray) (n : Nat) (l : List S31) (r : List S31 × Int × Int) : Prop :=
  (r.2.2 = 0 ∧ ∃ gs : List Gp, r.1 = l ++ flat gs ∧ (∀ g ∈ gs, Good g.2) ∧ gs.length ≤ n ∧ (l = [] → ∀ g gs', gs = g :: gs' → g.1 = none) ∧ r.1.Pairwise (fun x y => x.f3 < y.f3)) ∨ (r.2.2 ≠ 0 ∧ r.1 = [] ∧ r.2.1 ≤ (s.size : Int))
theorem out_step (s : ByteArray) (n : Nat) (l : List S31) (f : Int) (t : S31) (g : Good t) (r : List S31 × Int × Int) (h : Out s n (addT l f t) r) : Out s (n + 1) l r := by
  rcases h with ⟨h1, gs, h2, h3, h4, h5, h6⟩ | h
  · refine .inl ⟨h1, gpOf l f t :: gs, ?_, ?_, by simp only [List.length_cons]; omega, ?_, h6⟩
    · rw [h2, add_gp, flat_cons, List.append_assoc]
    · intro x hx
      rcases List.mem_cons.1 hx with hx | hx
      · rw [hx]; exact g
      · exact h3 x hx
    · intro hl x gs' e
      injection e with e1 e2
      rw [← e1, hl]
      unfold gpOf
      rw [if_neg (by simp)]
  · exact .inr h
theorem signN_spec (R : ByteArray) : (signN R = 2 ∧ 1 < R.size ∧ (twoL.any fun x => decide ((R.extract 0 2).toList = x)) = true) ∨ (signN R = 1 ∧ 0 ≤ oneI (bt R 0)) ∨ signN R = 0 := by
  unfold signN
  split
  · rename_i h; exact .inl ⟨rfl, h.1, h.2⟩
  · split
    · rename_i h; exact .inr (.inl ⟨rfl, h⟩)
    · exact .inr (.inr rfl)
theorem fwd (s : ByteArray) (hs : s.size ≤ 1000000) : ∀ (n : Nat) (l : List S31) (at_ fr kd : Int) (ts : ByteArray) (tn tp : Int) (r : List S31 × Int × Int), 0 ≤ at_ → at_ ≤ (s.size : Int) → Rise l at_ →
    (l.length : Int) + 2 * ((s.size : Int) - at_) + 2 < 3518437208883 → (s.size : Int) - at_ < n → ∃ r, allG s n l s at_ fr kd ts tn tp 0 = some r ∧ Out s n l r := by
  intro n
  induction n with
  | zero => intro l at_ fr kd ts tn tp r h0 h1 hR h3 h2; omega
  | succ n ih =>
    intro l at_ fr kd ts tn tp r0 h0 h1 hR h3 h2
    obtain ⟨p1, p2, p3⟩ := skipF_props s ((s.size : Int) - at_).toNat at_ (-1) (by omega) h1
    have p4 := (skip_line s ((s.size : Int) - at_).toNat at_ (-1) h0 (by omega)).1 rfl
    have hst : startR 20 s at_ fr (-1) kd ts tn tp 0 = atR 20 s (skipF s at_ (-1)).1 fr (skipF s at_ (-1)).2 kd ts tn tp 0 := rfl
    generalize (skipF s at_ (-1)).1 = a at p1 p2 p3 p4 hst
    generalize (skipF s at_ (-1)).2 = f at p4 hst
    unfold atR at hst
    by_cases ha : (s.size : Int) ≤ a
    · rw [if_pos ha] at hst
      refine ⟨(l, (s.size : Int), 0), ?_, .inl ⟨rfl, [], by simp [flat], fun g hg => absurd hg (by simp), by simp, fun _ g gs' e => absurd e (by simp), hR.1⟩⟩
      rw [allG_stop s s n l at_ fr kd ts tn tp 0 _ _ _ _ _ _ _ _ h0 h1 (by omega) hst, if_pos rfl]
    · rw [if_neg ha] at hst
      have ha1 : a < (s.size : Int) := by omega
      have hstop : Stop (bt s a) := p3 ha1
      have ha0 : 0 ≤ a := by omega
      have bad : ∀ (b kd' : Int) (ts' : ByteArray) (tn' : Int), startR 20 s at_ fr (-1) kd ts tn tp 0 = some (false, b, a, f, kd', ts', tn', a, 5) → ∃ r, allG s (n + 1) l s at_ fr kd ts tn tp 0 = some r ∧ Out s (n + 1) l r := fun b kd' ts' tn' hst => by
        refine ⟨([], a, 5), ?_, .inr ⟨by simp, rfl, by simp only []; omega⟩⟩
        rw [allG_stop s s n l at_ fr kd ts tn tp 0 _ _ _ _ _ _ _ _ h0 h1 (by omega) hst, if_neg (by decide)]
      have good : ∀ (b kd' : Int) (ts' : ByteArray) (tn' : Int), a < b → b ≤ (s.size : Int) → Good ⟨kd', ts', tn', a⟩ → startR 20 s at_ fr (-1) kd ts tn tp 0 = some (true, b, a, f, kd', ts', tn', a, 0) → ∃ r, allG s (n + 1) l s at_ fr kd ts tn tp 0 = some r ∧ Out s (n + 1) l r := fun b kd' ts' tn' hab hbs g hst => by
        have hal := (add_len l f ⟨kd', ts', tn', a⟩).1
        obtain ⟨r, hr, ho⟩ := ih (addT l f ⟨kd', ts', tn', a⟩) b a kd' ts' tn' a r0 (by omega) hbs (rise_add hR _ p4 rfl p1 b hab) (by omega) (by omega)
        refine ⟨r, ?_, out_step s n l f _ g r ho⟩
        rw [allG_tok s s n l at_ fr kd ts tn tp 0 b a f kd' ts' tn' a 0 (by omega) h0 h1 (by omega) hst]
        exact hr
      cases hl : letB (bt s a) with
      | true =>
        rw [hl, if_pos rfl] at hst
        have g1 := runF_ge wordB s ((s.size : Int) - (a + 1)).toNat (a + 1) (by omega)
        have g2 := runF_le wordB s ((s.size : Int) - (a + 1)).toNat (a + 1) (by omega) (by omega)
        have g3 := run_all wordB s ((s.size : Int) - (a + 1)).toNat (a + 1) (by omega)
        generalize runF wordB s (a + 1) = b at hst g1 g2 g3
        have hsz := ext_size s a b ha0 (by omega) g2
        have hlie := lies_of s a b ha0 (by omega) g2
        unfold nameR at hst
        generalize s.extract a.toNat b.toNat = x at hst hsz hlie
        by_cases hx : namedE x 0 = 0
        · rw [hx] at hst
          refine good b (namedK x) x 0 (by omega) g2 (.inl ⟨by show 0 < x.size; omega, ?_, ?_, hx, rfl, rfl⟩) hst
          · have := hlie.2 0 (by omega) (by omega)
            rw [Int.add_zero] at this
            rw [← this]; exact hl
          · intro j hj0 hj1
            have := hlie.2 j hj0 hj1
            rw [← this]
            by_cases e : j = 0
            · rw [e, Int.add_zero]; unfold wordB; rw [hl]; rfl
            · exact g3 _ (by omega) (by have : (j : Int) < b - a := by rw [← hsz]; exact hj1
                                        omega)
        · have h5 : namedE x 0 = 5 := by
            unfold namedE at hx ⊢
            by_cases hr : resvB x = true
            · rw [if_pos hr] at hx; exact absurd rfl hx
            · rw [if_neg hr] at hx ⊢
              split at hx
              · rename_i h; rw [if_pos h]
              · exact absurd rfl hx
          rw [h5] at hst
          exact bad _ _ _ _ hst
      | false =>
        rw [hl, if_neg (by decide)] at hst
        cases hm : numB (bt s a) with
        | true =>
          rw [hm, if_pos rfl] at hst
          have g1 := runF_ge numB s ((s.size : Int) - (a + 1)).toNat (a + 1) (by omega)
          have g2 := runF_le numB s ((s.size : Int) - (a + 1)).toNat (a + 1) (by omega) (by omega)
          unfold digR at hst
          generalize runF numB s (a + 1) = b at hst g1 g2
          obtain ⟨v, e, he, hp⟩ := answers20 (s.extract a.toNat b.toNat)
          rw [hp 20 (by omega)] at hst
          simp only [] at hst
          rcases he with rfl | rfl
          · refine good b 4 ByteArray.empty v (by omega) g2 (.inr (.inl ⟨rfl, rfl, ?_, ?_⟩)) hst
            · obtain ⟨_, _, hD, _, hv, _⟩ := parse_accepts _ 20 v (hp 20 (by omega))
              have := val_ge _ hD 0 (Int.le_refl _)
              show 0 ≤ v
              omega
            · obtain ⟨_, _, hD, _, hv, hv2⟩ := parse_accepts _ 20 v (hp 20 (by omega))
              show v ≤ 2147483647
              omega
          · exact bad _ _ _ _ hst
        | false =>
          rw [hm, if_neg (by decide)] at hst
          have hlie := lies_of s a (s.size : Int) ha0 (by omega) (Int.le_refl _)
          rw [Int.toNat_natCast] at hlie
          have hR : (s.extract a.toNat s.size).size = s.size - a.toNat := by rw [ByteArray.size_extract]; omega
          unfold signR at hst
          generalize s.extract a.toNat s.size = R at hst hlie hR
          have hb0 : bt R 0 = bt s a := by have := hlie.2 0 (by omega) (by omega); rw [Int.add_zero] at this; exact this.symm
          have mk : ∀ m : Nat, 1 ≤ m → m ≤ R.size → (R.extract 0 m).size = m ∧ bt (R.extract 0 m) 0 = bt s a := fun m q1 q2 => by
            have hz : (R.extract 0 m).size = m := by rw [ByteArray.size_extract]; omega
            have h := lies_of R 0 (m : Int) (by omega) (by omega) (by omega)
            rw [Int.toNat_natCast, show (0 : Int).toNat = 0 from rfl] at h
            have := h.2 0 (by omega) (by omega)
            rw [Int.add_zero] at this
            exact ⟨hz, by rw [← this, hb0]⟩
          rcases signN_spec R with ⟨hn, hr, ht⟩ | ⟨hn, ht⟩ | hn
          · rw [hn, if_neg (by decide)] at hst
            obtain ⟨m1, m2⟩ := mk 2 (by omega) (by omega)
            refine good (a + 2) 5 (R.extract 0 2) 0 (by omega) (by omega) (.inr (.inr ⟨rfl, rfl, ?_, ?_, ?_, .inl ⟨m1, ht⟩⟩)) hst
            · show letB (bt (R.extract 0 2) 0) = false; rw [m2]; exact hl
            · show numB (bt (R.extract 0 2) 0) = false; rw [m2]; exact hm
            · show Stop (bt (R.extract 0 2) 0); rw [m2]; exact hstop
          · rw [hn, if_neg (by decide)] at hst
            obtain ⟨m1, m2⟩ := mk 1 (by omega) (by omega)
            refine good (a + 1) 5 (R.extract 0 1) 0 (by omega) (by omega) (.inr (.inr ⟨rfl, rfl, ?_, ?_, ?_, .inr ⟨m1, ?_⟩⟩)) hst
            · show letB (bt (R.extract 0 1) 0) = false; rw [m2]; exact hl
            · show numB (bt (R.extract 0 1) 0) = false; rw [m2]; exact hm
            · show Stop (bt (R.extract 0 1) 0); rw [m2]; exact hstop
            · show 0 ≤ oneI (bt (R.extract 0 1) 0); rw [m2, ← hb0]; exact ht
          · rw [hn, if_pos rfl] at hst
            exact bad _ _ _ _ hst

/-! the law's own loops -/
theorem rd_eq (l : List S31) (i : Int) (h0 : 0 ≤ i) (h1 : i < (l.length : Int)) : ∃ h : i.toNat < l.length, rd_T31 l i = l[i.toNat]'h := by
  have h : i.toNat < l.length := by omega
  refine ⟨h, ?_⟩
  unfold rd_T31
  simp [h]
theorem loop1 (l m : List S31) (hk : m.map key = l.map key) (hl : l.length ≤ 1000000) (d : Nat) : ∀ (k : Nat) (i : Int), 0 ≤ i → (m.length : Int) - i ≤ d → d < k → gramaryelaw28_TokenAgain.l1 k l m i = some true := by
  have hlen : m.length = l.length := by have := congrArg List.length hk; simpa using this
  induction d with
  | zero =>
    intro k i h0 hd hk
    obtain ⟨k, rfl⟩ : ∃ m, k = m + 1 := ⟨k - 1, by omega⟩
    rw [gramaryelaw28_TokenAgain.l1, if_neg (by omega)]
  | succ d ih =>
    intro k i h0 hd hk2
    obtain ⟨k, rfl⟩ : ∃ m, k = m + 1 := ⟨k - 1, by omega⟩
    rw [gramaryelaw28_TokenAgain.l1]
    by_cases h : i < (m.length : Int)
    · obtain ⟨p, hp⟩ := rd_eq m i h0 h
      obtain ⟨q, hq⟩ := rd_eq l i h0 (by omega)
      have e : key (m[i.toNat]'p) = key (l[i.toNat]'q) := by
        have h1 : (m.map key)[i.toNat]? = (l.map key)[i.toNat]? := by rw [hk]
        simpa [p, q] using h1
      unfold key at e
      simp only [Prod.mk.injEq] at e
      rw [if_pos h, if_pos h0, if_pos (by omega), hp, hq, if_pos e.1, if_pos (by rw [e.2.1]), if_pos e.2.2, w64 (by omega) (by omega)]
      exact ih k (i + 1) (by omega) (by omega) (by omega)
    · rw [if_neg h]
theorem loop0 (l m : List S31) (q : Int) (hr : l.Pairwise (fun x y => x.f3 < y.f3)) (hs : (joinL l).size ≤ 1000000) (hl : l.length ≤ 1000000) (hk : m.map key = l.map key) (hA : token_All.f (joinL l) = some (m, q, 0)) (d : Nat) :
    ∀ (k : Nat) (i : Int) (X : ByteArray), 0 ≤ i → (l.length : Int) - i = d → d + l.length + 10 ≤ k → X ++ joinL (l.drop i.toNat) = joinL l → gramaryelaw28_TokenAgain.l0 k l X i = some true := by
  have hlen : m.length = l.length := by have := congrArg List.length hk; simpa using this
  induction d with
  | zero =>
    intro k i X h0 hd hk2 hX
    obtain ⟨k, rfl⟩ : ∃ m, k = m + 2 := ⟨k - 2, by omega⟩
    have hX2 : X = joinL l := by
      rw [List.drop_eq_nil_of_le (by omega)] at hX
      rw [← hX]
      exact ext (by rw [dapp]; simp [joinL])
    rw [gramaryelaw28_TokenAgain.l0, if_neg (by omega), hX2, hA]
    simp only [Option.bind_some, if_true]
    rw [gramaryelaw28_TokenAgain.j1, hlen]
    simp only [bne_self_eq_false, Bool.false_eq_true, if_false]
    exact loop1 l m hk hl m.length k 0 (by omega) (by omega) (by omega)
  | succ d ih =>
    intro k i X h0 hd hk2 hX
    obtain ⟨k, rfl⟩ : ∃ m, k = m + 1 := ⟨k - 1, by omega⟩
    obtain ⟨p, hp⟩ := rd_eq l i h0 (by omega)
    rw [List.drop_eq_getElem_cons p, joinL] at hX
    have hX' : (X ++ (txt (l[i.toNat]'p) ++ (⟨#[32]⟩ : ByteArray))) ++ joinL (l.drop (i + 1).toNat) = joinL l := by
      rw [show (i + 1).toNat = i.toNat + 1 by omega, ← hX]
      apply ext
      simp only [dapp, List.append_assoc]
    have hz : X.size + ((txt (l[i.toNat]'p) ++ (⟨#[32]⟩ : ByteArray)).size + (joinL (l.drop (i + 1).toNat)).size) = (joinL l).size := by
      rw [← hX']; simp only [ByteArray.size_append]; omega
    have hz2 : (txt (l[i.toNat]'p) ++ (⟨#[32]⟩ : ByteArray)).size = (txt (l[i.toNat]'p)).size + 1 := by rw [ByteArray.size_append]; rfl
    have hnext := ih k (i + 1) _ (by omega) (by omega) (by omega) hX'
    rw [gramaryelaw28_TokenAgain.l0, if_pos (by omega), hp, text_is]
    simp only [Option.bind_some]
    have htail : (if (txt (l[i.toNat]'p)).size + 1 ≤ 9223372036854775807 then (if X.size + (txt (l[i.toNat]'p) ++ (⟨#[32]⟩ : ByteArray)).size ≤ 9223372036854775807 then (gramaryelaw28_TokenAgain.l0 k l (X ++ (txt (l[i.toNat]'p) ++ (⟨#[32]⟩ : ByteArray))) (wrap64 (i + 1))) else (none)) else (none)) = some true := by
      rw [if_pos (by omega), if_pos (by omega), w64 (by omega) (by omega)]
      exact hnext
    by_cases hi : i > 0
    · obtain ⟨p', hp'⟩ := rd_eq l (i - 1) (by omega) (by omega)
      have hw : wrap64 (i - 1) = i - 1 := w64 (by omega) (by omega)
      have hlt := List.pairwise_iff_getElem.1 hr (i - 1).toNat i.toNat p' p (by omega)
      rw [if_pos hi, if_pos h0, hw, if_pos (by omega), if_pos (by omega), hp', if_neg (by omega)]
      exact htail
    · rw [if_neg hi, if_pos h0]
      exact htail
theorem txt_small (t : S31) (g : Good t) : (txt t).size ≤ 40 := by
  rcases g with g | g | g
  · have e : txt t = t.f1 := by
      unfold txt
      rw [if_neg (by rw [g.2.2.2.2.1]; unfold namedK; split <;> decide)]
    rw [e]
    have h := g.2.2.2.1
    unfold namedE at h
    by_cases hr : resvB t.f1 = true
    · have := resv_short t.f1 hr; omega
    · rw [if_neg hr] at h
      split at h
      · exact absurd h (by decide)
      · omega
  · obtain ⟨u, hu, hp⟩ := parse_print t.f2 g.2.2.1 g.2.2.2
    have e : txt t = u := by
      unfold txt
      rw [if_pos g.1, hu]
      rfl
    rw [e]
    have := (parse_accepts u 20 t.f2 (hp 20 (by omega))).2.1
    omega
  · have e : txt t = t.f1 := by
      unfold txt
      rw [if_neg (by rw [g.1]; decide)]
    rw [e]
    rcases g.2.2.2.2.2 with ⟨z, _⟩ | ⟨z, _⟩ <;> omega
theorem join_small (gs : List Gp) (h : ∀ g ∈ gs, Good g.2) : (joinL (flat gs)).size ≤ 43 * gs.length ∧ (flat gs).length ≤ 2 * gs.length ∧ gs.length ≤ (joinL (flat gs)).size := by
  induction gs with
  | nil => exact ⟨Nat.le_of_eq rfl, Nat.le_of_eq rfl, Nat.le_of_eq rfl⟩
  | cons g gs ih =>
    obtain ⟨h1, h2, h3⟩ := ih (fun x hx => h x (List.mem_cons_of_mem _ hx))
    have ht := txt_small g.2 (h g List.mem_cons_self)
    have e32 : (⟨#[32]⟩ : ByteArray).size = 1 := rfl
    obtain ⟨f, t⟩ := g
    cases f with
    | none =>
      have a : (joinL (flat ((none, t) :: gs))).size = (txt t).size + 1 + (joinL (flat gs)).size := by
        show ((txt t ++ (⟨#[32]⟩ : ByteArray)) ++ joinL (flat gs)).size = _
        rw [ByteArray.size_append, ByteArray.size_append]; rfl
      have b : (flat ((none, t) :: gs)).length = (flat gs).length + 1 := by rw [flat_cons, List.length_append]; show 1 + _ = _; omega
      have ht' : (txt t).size ≤ 40 := ht
      simp only [List.length_cons]
      omega
    | some p =>
      have a : (joinL (flat ((some p, t) :: gs))).size = 2 + ((txt t).size + 1 + (joinL (flat gs)).size) := by
        show ((txt (feedT p) ++ (⟨#[32]⟩ : ByteArray)) ++ ((txt t ++ (⟨#[32]⟩ : ByteArray)) ++ joinL (flat gs))).size = _
        rw [ByteArray.size_append, ByteArray.size_append, ByteArray.size_append, ByteArray.size_append]; rfl
      have b : (flat ((some p, t) :: gs)).length = (flat gs).length + 2 := by rw [flat_cons, List.length_append]; show 2 + _ = _; omega
      have ht' : (txt t).size ≤ 40 := ht
      simp only [List.length_cons]
      omega
theorem short_is (s : ByteArray) : ∃ t, gramaryelaw28_short.f s = some t ∧ t.size ≤ 2000 := by
  refine ⟨s.extract 0 (mn (s.size : Int) 2000).toNat, ?_, ?_⟩
  · unfold gramaryelaw28_short.f
    rw [if_pos (by unfold mn; split <;> omega), if_pos (by unfold mn; split <;> omega)]
  · rw [ByteArray.size_extract]
    unfold mn
    split <;> omega
theorem works_true : gramaryelaw28_works.f = some true := by decide +kernel
theorem TokenAgain : gramaryelaw28_TokenAgain.PureG := by
  intro a0 _
  obtain ⟨s, hs, hz⟩ := short_is a0
  obtain ⟨⟨l, n, e⟩, hr, ho⟩ := fwd s (by omega) (s.size + 2) [] 0 0 0 ⟨#[]⟩ 0 0 ([], 0, 0) (by omega) (by omega) ⟨List.Pairwise.nil, fun t ht => absurd ht (by simp)⟩ (by simp only [List.length_nil]; omega) (by omega)
  have hA : token_All.f s = some (l, n, e) := by
    unfold token_All.f
    rw [if_neg (by omega)]
    exact hr
  refine ⟨20000, ?_⟩
  unfold gramaryelaw28_TokenAgain.f
  rw [works_true, hs]
  simp only [Option.bind_some, if_true]
  rw [hA]
  simp only [Option.bind_some]
  rcases ho with ⟨h1, gs, h2, h3, h4, h5, h6⟩ | ⟨h1, h2, h3⟩
  · simp only [List.nil_append] at h1 h2 h6
    rw [if_pos h1]
    obtain ⟨j1, j2, j3⟩ := join_small gs h3
    rw [h2] at h6 ⊢
    obtain ⟨l', hq, hk⟩ := reread (joinL (flat gs)) (by omega) gs h3 ((joinL (flat gs)).size + 2) 0 0 [] 0 0 ⟨#[]⟩ 0 0 (by omega) (by omega) (by omega) (fun _ _ _ _ _ => rfl) (by omega) (lies_refl _) (by omega) (by simp only [List.length_nil]; omega) h5
    refine loop0 (flat gs) l' ((joinL (flat gs)).size : Int) h6 (by omega) (by omega) hk ?_ (flat gs).length 20000 0 ⟨#[]⟩ (by omega) (by omega) (by omega) ?_
    · unfold token_All.f
      rw [if_neg (by omega)]
      exact hq
    · exact ext (by rw [dapp]; rfl)
  · have h1' : e ≠ 0 := h1
    have h2' : l = [] := h2
    have h3' : n ≤ (s.size : Int) := h3
    subst h2'
    rw [if_neg h1', if_pos (show ((([] : List S31).length : Nat) : Int) = 0 from rfl), decide_eq_true h3']
end Go.Proofs.YtmpdilifoblnaaaDoor.Pure
