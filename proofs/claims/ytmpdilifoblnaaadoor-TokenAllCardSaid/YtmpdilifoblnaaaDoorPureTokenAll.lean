/- token.All reads what the document's scanner reads, for every text. -/
import Derived.Test.YtmpdilifoblnaaaDoorStatTokenAll
import Derived.Test.YtmpdilifoblnaaaDoorBase
import Derived.Lib.IndexAny
namespace Go.Proofs.YtmpdilifoblnaaaDoor.Pure
open Go.RowKit Go.Proofs.YtmpdilifoblnaaaDoor.MTokenAll Go.Proofs.YtmpdilifoblnaaaDoorW.PrintWords Go.Proofs.YtmpdilifoblnaaaDoorW.PrintLast Go.Proofs.YtmpdilifoblnaaaDoorW.PrintMore Go.Proofs.YtmpdilifoblnaaaDoor.Base Go.Proofs.YtmpdilifoblnaaaDoor.Glob
set_option linter.unusedSimpArgs false

theorem letter_ref (c : Int) : gramaryeref28_letter.f c = some (letB c) := letB_is c
theorem num_ref (c : Int) : gramaryeref28_num.f c = some (numB c) := numB_is c

/-! the document's scanner, told by what it comes to -/
def EvR (s : ByteArray) (out : List S31) (feed i : Int) (r : List S31 × Int × Int) : Prop := ∃ k0, ∀ k, k0 ≤ k → gramaryeref28_All.l0 k s out feed i = some r
theorem ev_end (s : ByteArray) (out : List S31) (feed i : Int) (h : (s.size : Int) ≤ i) : EvR s out feed i (out, (s.size : Int), 0) := by
  refine ⟨1, fun k hk => ?_⟩
  obtain ⟨k, rfl⟩ : ∃ m, k = m + 1 := ⟨k - 1, by omega⟩
  rw [gramaryeref28_All.l0, if_neg (by omega)]
theorem l0_in (s : ByteArray) (out : List S31) (feed i : Int) (k : Nat) (h0 : 0 ≤ i) (h1 : i < (s.size : Int)) :
    gramaryeref28_All.l0 (k + 1) s out feed i = gramaryeref28_All.j1 k s out feed i (bt s i) (decide (bt s i = 32 ∨ bt s i = 9 ∨ bt s i = 13)) := by
  rw [gramaryeref28_All.l0, if_pos h1, if_pos h0]
  by_cases a : bt s i = 32
  · rw [if_pos a, decide_eq_true (.inl a)]
  · rw [if_neg a]
    by_cases b : bt s i = 9
    · rw [if_pos b, decide_eq_true (.inr (.inl b))]
    · rw [if_neg b]
      congr 1
      by_cases c : bt s i = 13
      · rw [decide_eq_true (.inr (.inr c))]; exact beq_iff_eq.2 c
      · rw [decide_eq_false (fun h => h.elim a (fun h => h.elim b c))]; exact beq_eq_false_iff_ne.2 c
theorem ev_blank (s : ByteArray) (hs : s.size ≤ 1000000) (out : List S31) (feed i : Int) (r : List S31 × Int × Int) (h0 : 0 ≤ i) (h1 : i < (s.size : Int)) (hb : bt s i = 32 ∨ bt s i = 9 ∨ bt s i = 13) (h : EvR s out feed (i + 1) r) : EvR s out feed i r := by
  obtain ⟨k0, hk0⟩ := h
  refine ⟨k0 + 2, fun k hk => ?_⟩
  obtain ⟨k, rfl⟩ : ∃ m, k = m + 2 := ⟨k - 2, by omega⟩
  rw [l0_in s out feed i _ h0 h1, decide_eq_true hb, gramaryeref28_All.j1, if_pos rfl, w64 (by omega) (by omega)]
  exact hk0 k (by omega)
theorem ev_line (s : ByteArray) (hs : s.size ≤ 1000000) (out : List S31) (feed i : Int) (r : List S31 × Int × Int) (h0 : 0 ≤ i) (h1 : i < (s.size : Int)) (hb : bt s i = 10) (h : EvR s out (if feed < 0 then i else feed) (i + 1) r) : EvR s out feed i r := by
  obtain ⟨k0, hk0⟩ := h
  refine ⟨k0 + 2, fun k hk => ?_⟩
  obtain ⟨k, rfl⟩ : ∃ m, k = m + 2 := ⟨k - 2, by omega⟩
  rw [l0_in s out feed i _ h0 h1, decide_eq_false (by omega), gramaryeref28_All.j1, if_neg (by decide), if_pos hb, w64 (by omega) (by omega)]
  have := hk0 k (by omega)
  by_cases hf : feed < 0
  · rw [if_pos hf] at this ⊢; exact this
  · rw [if_neg hf] at this ⊢; exact this
theorem ev_skip (s : ByteArray) (hs : s.size ≤ 1000000) (out : List S31) (r : List S31 × Int × Int) : ∀ (d : Nat) (i feed : Int), 0 ≤ i → (s.size : Int) - i ≤ d → EvR s out (skipF s i feed).2 (skipF s i feed).1 r → EvR s out feed i r := by
  intro d
  induction d with
  | zero =>
    intro i feed h0 hd h
    rw [skipF_end s i feed (by omega)] at h
    exact h
  | succ d ih =>
    intro i feed h0 hd h
    by_cases h1 : i < (s.size : Int)
    · rw [skipF_step s i feed h1] at h
      by_cases a : bt s i = 10
      · rw [if_pos a] at h
        exact ev_line s hs out feed i r h0 h1 a (ih _ _ (by omega) (by omega) h)
      · rw [if_neg a] at h
        by_cases b : bt s i = 32 ∨ bt s i = 9 ∨ bt s i = 13
        · rw [if_pos b] at h
          exact ev_blank s hs out feed i r h0 h1 b (ih _ _ (by omega) (by omega) h)
        · rw [if_neg b] at h
          exact h
    · rw [skipF_end s i feed (by omega)] at h
      exact h
/-- What one token adds. -/
def addT (out : List S31) (feed : Int) (t : S31) : List S31 := (if 0 ≤ feed ∧ 0 < out.length then out ++ [(⟨5, (⟨#[10]⟩ : ByteArray), 0, feed⟩ : S31)] else out) ++ [t]
theorem ev_tok (s : ByteArray) (hs : s.size ≤ 1000000) (out : List S31) (feed i : Int) (r : List S31 × Int × Int) (h0 : 0 ≤ i) (h1 : i < (s.size : Int)) (hb : ¬ (bt s i = 32 ∨ bt s i = 9 ∨ bt s i = 13)) (hl : bt s i ≠ 10)
    (hout : out.length + 2 < 3518437208883) (t1 : Int) (t2 : ByteArray) (t3 t4 n : Int) (hn : 0 ≤ n ∧ n ≤ 1000000) (hone : ∃ k0, ∀ k, k0 ≤ k → gramaryeref28_one.f k s i = some (t1, t2, t3, t4, n, true))
    (h : EvR s (addT out feed ⟨t1, t2, t3, t4⟩) (-1) (i + n) r) : EvR s out feed i r := by
  obtain ⟨k0, hk0⟩ := h
  obtain ⟨k1, hk1⟩ := hone
  refine ⟨k0 + k1 + 2, fun k hk => ?_⟩
  obtain ⟨k, rfl⟩ : ∃ m, k = m + 2 := ⟨k - 2, by omega⟩
  have hz := hk0 k (by omega)
  rw [l0_in s out feed i _ h0 h1, decide_eq_false hb, gramaryeref28_All.j1, if_neg (by decide), if_neg hl, hk1 k (by omega)]
  simp only [Option.bind_some, if_true]
  rw [w64 (by omega) (by omega)]
  unfold addT at hz
  by_cases hf : 0 ≤ feed
  · rw [if_pos hf]
    by_cases ho : 0 < out.length
    · rw [if_pos ⟨hf, ho⟩] at hz
      rw [if_pos (by omega), if_pos (by omega), if_pos (by rw [List.length_append]; simp only [List.length_cons, List.length_nil]; omega)]
      exact hz
    · rw [if_neg (fun h => ho h.2)] at hz
      rw [if_neg (by omega), if_pos (by omega)]
      exact hz
  · rw [if_neg (fun h => hf h.1)] at hz
    rw [if_neg hf, if_pos (by omega)]
    exact hz
theorem ev_bad (s : ByteArray) (hs : s.size ≤ 1000000) (out : List S31) (feed i : Int) (h0 : 0 ≤ i) (h1 : i < (s.size : Int)) (hb : ¬ (bt s i = 32 ∨ bt s i = 9 ∨ bt s i = 13)) (hl : bt s i ≠ 10)
    (hone : ∃ t1 t2 t3 t4 n, ∃ k0, ∀ k, k0 ≤ k → gramaryeref28_one.f k s i = some (t1, t2, t3, t4, n, false)) : EvR s out feed i ([], i, 5) := by
  obtain ⟨t1, t2, t3, t4, n, k1, hk1⟩ := hone
  refine ⟨k1 + 2, fun k hk => ?_⟩
  obtain ⟨k, rfl⟩ : ∃ m, k = m + 2 := ⟨k - 2, by omega⟩
  rw [l0_in s out feed i _ h0 h1, decide_eq_false hb, gramaryeref28_All.j1, if_neg (by decide), if_neg hl, hk1 k (by omega)]
  simp only [Option.bind_some, Bool.false_eq_true, if_false]

/-! one token -/
theorem find_loop (s : ByteArray) (l : List ByteArray) (hl : l.length ≤ 1000) (d : Nat) : ∀ (k : Nat) (i : Int), 0 ≤ i → (l.length : Int) - i = d → d < k →
    ∃ r, gramaryeref02_Find.l0 k s l i = some r ∧ decide (r ≥ 0) = (l.drop i.toNat).any fun t => t.toList == s.toList := by
  induction d with
  | zero =>
    intro k i h0 hd hk
    obtain ⟨k, rfl⟩ : ∃ m, k = m + 1 := ⟨k - 1, by omega⟩
    refine ⟨-1, by simp only [gramaryeref02_Find.l0]; rw [if_neg (by omega)], ?_⟩
    rw [List.drop_eq_nil_of_le (by omega)]; rfl
  | succ d ih =>
    intro k i h0 hd hk
    obtain ⟨k, rfl⟩ : ∃ m, k = m + 1 := ⟨k - 1, by omega⟩
    obtain ⟨r, hr, he⟩ := ih k (i + 1) (by omega) (by omega) (by omega)
    have hlt : i.toNat < l.length := by omega
    have hrd : rdOf ByteArray.empty l i = l[i.toNat] := by unfold rdOf; rw [List.getD_eq_getElem?_getD, List.getElem?_eq_getElem hlt]; rfl
    simp only [gramaryeref02_Find.l0]
    rw [if_pos (by omega), if_pos h0, hrd, List.drop_eq_getElem_cons hlt, List.any_cons]
    by_cases h : l[i.toNat].toList = s.toList
    · exact ⟨i, by rw [if_pos h], by rw [beq_iff_eq.2 h, decide_eq_true h0]; rfl⟩
    · refine ⟨r, by rw [if_neg h, w64 (by omega) (by omega)]; exact hr, ?_⟩
      rw [he, beq_eq_false_iff_ne.2 h, show (i + 1).toNat = i.toNat + 1 by omega]; rfl
theorem ref_resv (s : ByteArray) (k : Nat) (hk : 20 ≤ k) : gramaryeref27_Reserved.f k s = some (resvB s) := by
  unfold gramaryeref27_Reserved.f gramaryeref02_Find.f
  obtain ⟨r, hr, he⟩ := find_loop s resvL (by decide) 18 k 0 (by omega) rfl (by omega)
  have : gramaryeref02_Find.l0 k s resvL 0 = some r := hr
  unfold resvL at this
  rw [this]
  simp only [Option.bind_some]
  rw [he]; rfl
theorem runF_ge (p : Int → Bool) (s : ByteArray) : ∀ (d : Nat) (i : Int), (s.size : Int) - i ≤ d → i ≤ runF p s i := by
  intro d
  induction d with
  | zero => intro i h; rw [runF_end p s i (by omega)]; exact Int.le_refl _
  | succ d ih =>
    intro i h
    by_cases h1 : i < (s.size : Int)
    · rw [runF_step p s i h1]
      split
      · have := ih (i + 1) (by omega); omega
      · exact Int.le_refl _
    · rw [runF_end p s i (by omega)]; exact Int.le_refl _
theorem runF_le (p : Int → Bool) (s : ByteArray) : ∀ (d : Nat) (i : Int), (s.size : Int) - i ≤ d → i ≤ (s.size : Int) → runF p s i ≤ (s.size : Int) := by
  intro d
  induction d with
  | zero => intro i h h2; rw [runF_end p s i (by omega)]; exact h2
  | succ d ih =>
    intro i h h2
    by_cases h1 : i < (s.size : Int)
    · rw [runF_step p s i h1]
      split
      · exact ih (i + 1) (by omega) (by omega)
      · exact h2
    · rw [runF_end p s i (by omega)]; exact h2
def NR (s : ByteArray) (a b : Int) : Int × ByteArray × Int × Int × Int × Bool := (if resvB (s.extract a.toNat b.toNat) = true then 1 else 2, s.extract a.toNat b.toNat, 0, a, b - a, decide (b - a ≤ 40))
theorem oneN_fin (s : ByteArray) (k : Nat) (a i : Int) (hk : 20 ≤ k) (h0 : 0 ≤ a) (h1 : a ≤ i) (h2 : i ≤ (s.size : Int)) :
    (if 0 ≤ a then (if a ≤ i then (if i ≤ (s.size : Int) then ((gramaryeref27_Reserved.f k (s.extract (a : Int).toNat (i : Int).toNat)).bind fun t117 => (if t117 = true then (some (1, s.extract (a : Int).toNat (i : Int).toNat, (0 : Int), a, i - a, decide (i - a ≤ 40))) else (some (2, s.extract (a : Int).toNat (i : Int).toNat, 0, a, i - a, decide (i - a ≤ 40))))) else (none)) else (none)) else (none)) = some (NR s a i) := by
  rw [if_pos h0, if_pos h1, if_pos h2, ref_resv _ k hk]
  simp only [Option.bind_some]
  unfold NR
  by_cases h : resvB (s.extract a.toNat i.toNat) = true
  · rw [if_pos h, if_pos h]
  · rw [if_neg h, if_neg h]
theorem oneN_loop (s : ByteArray) (hs : s.size ≤ 1000000) (a : Int) (h0 : 0 ≤ a) (d : Nat) : ∀ (k : Nat) (i : Int), a ≤ i → i ≤ (s.size : Int) → (s.size : Int) - i = d → d + 30 ≤ k →
    gramaryeref28_one.l0 k s a (i - a) 0 (⟨#[]⟩ : ByteArray) 0 a = some (NR s a (runF wordB s i)) := by
  induction d with
  | zero =>
    intro k i h1 h2 hd hk
    obtain ⟨k, rfl⟩ : ∃ m, k = m + 1 := ⟨k - 1, by omega⟩
    have hi : wrap64 (a + (i - a)) = i := by rw [w64 (by omega) (by omega)]; omega
    rw [gramaryeref28_one.l0, hi, if_neg (by omega), runF_end wordB s i (by omega)]
    exact oneN_fin s k a i (by omega) h0 h1 h2
  | succ d ih =>
    intro k i h1 h2 hd hk
    obtain ⟨k, rfl⟩ : ∃ m, k = m + 1 := ⟨k - 1, by omega⟩
    have hi : wrap64 (a + (i - a)) = i := by rw [w64 (by omega) (by omega)]; omega
    have hn : wrap64 (i - a + 1) = (i + 1) - a := by rw [w64 (by omega) (by omega)]; omega
    have hnext := ih k (i + 1) (by omega) (by omega) (by omega) (by omega)
    rw [gramaryeref28_one.l0, hi, if_pos (by omega), if_pos (by omega), letter_ref, num_ref, hn, hnext, runF_step wordB s i (by omega)]
    simp only [Option.bind_some]
    unfold wordB
    cases hl : letB (bt s i) with
    | true => simp only [if_true, Bool.true_or]
    | false =>
      cases hm : numB (bt s i) with
      | true => simp only [if_true, Bool.false_eq_true, if_false, Bool.or_true]
      | false =>
        simp only [Bool.false_eq_true, if_false, Bool.or_false]
        exact oneN_fin s k a i (by omega) h0 h1 h2
theorem oneN (s : ByteArray) (hs : s.size ≤ 1000000) (a : Int) (h0 : 0 ≤ a) (h1 : a < (s.size : Int)) (hl : letB (bt s a) = true) :
    ∃ k0, ∀ k, k0 ≤ k → gramaryeref28_one.f k s a = some (NR s a (runF wordB s (a + 1))) := by
  refine ⟨s.size + 30, fun k hk => ?_⟩
  have h := oneN_loop s hs a h0 ((s.size : Int) - a).toNat k a (Int.le_refl _) (by omega) (by omega) (by omega)
  rw [Int.sub_self, runF_step wordB s a h1, if_pos (by unfold wordB; rw [hl]; rfl)] at h
  unfold gramaryeref28_one.f
  rw [if_pos h0, if_pos h1, letter_ref, hl]
  simp only [Option.bind_some, if_true]
  exact h

/-! numbers: digit.Parse and the document's Parse -/
def post (b : Int × Bool) : Option (Int × Int) := if b.2 = true then (if b.1 > 2147483647 then some (0, 5) else some (b.1, 0)) else some (0, 5)
theorem loops (s : ByteArray) : ∀ (k : Nat) (n i : Int), digit_Parse.l0 k s n (s.size : Int) i = (gramaryebase_Whole.l0 k s n i).bind post
  | 0, _, _ => rfl
  | k + 1, n, i => by
    simp only [digit_Parse.l0, gramaryebase_Whole.l0]
    rw [Int.mul_comm n 10, loops s k]
    by_cases h1 : i < (s.size : Int)
    · rw [if_pos h1, if_pos h1]
      by_cases h2 : 0 ≤ i
      · rw [if_pos h2, if_pos h1, if_pos h2]
        by_cases h3 : bt s i < 48
        · rw [if_pos h3, if_pos h3]; rfl
        · rw [if_neg h3, if_neg h3]
          by_cases h4 : bt s i > 57
          · rw [if_pos h4, if_pos h4]; rfl
          · rw [if_neg h4, if_neg h4]
      · rw [if_neg h2, if_pos h1, if_neg h2]; rfl
    · rw [if_neg h1, if_neg h1]
      simp [post]
theorem jumps (s : ByteArray) (k : Nat) (b : Bool) : digit_Parse.j0 (k + 1) s b = (gramaryebase_Whole.j0 (k + 1) s b).bind post := by
  simp only [digit_Parse.j0, gramaryebase_Whole.j0]
  cases b
  · exact loops s k 0 0
  · rfl
theorem ends (s : ByteArray) (hs : s.size ≤ 140737488351232) (d : Nat) : ∀ (k : Nat) (n i : Int), 0 ≤ i → (s.size : Int) - i ≤ d → d < k → ∃ r, gramaryebase_Whole.l0 k s n i = some r := by
  induction d with
  | zero =>
    intro k n i h0 hd hk
    obtain ⟨k, rfl⟩ : ∃ m, k = m + 1 := ⟨k - 1, by omega⟩
    exact ⟨_, by simp only [gramaryebase_Whole.l0]; rw [if_neg (by omega)]⟩
  | succ d ih =>
    intro k n i h0 hd hk
    obtain ⟨k, rfl⟩ : ∃ m, k = m + 1 := ⟨k - 1, by omega⟩
    simp only [gramaryebase_Whole.l0]
    by_cases h1 : i < (s.size : Int)
    · rw [if_pos h1, if_pos h0]
      by_cases h3 : bt s i < 48
      · rw [if_pos h3]; exact ⟨_, rfl⟩
      · rw [if_neg h3]
        by_cases h4 : bt s i > 57
        · rw [if_pos h4]; exact ⟨_, rfl⟩
        · rw [if_neg h4, w64 (x := i + 1) (by omega) (by omega)]
          exact ih k _ (i + 1) (by omega) (by omega) (by omega)
    · rw [if_neg h1]; exact ⟨_, rfl⟩
theorem empty_iff (s : ByteArray) : (s.toList = ([] : List UInt8)) ↔ (s.size : Int) = 0 := by
  rw [tl, ← dlen]
  generalize s.data.toList = l
  cases l with
  | nil => simp
  | cons x l => simp; omega
theorem parses (s : ByteArray) (k : Nat) : digit_Parse.f (k + 1) s = gramaryeref03_Parse.f (k + 1) s := by
  have hp : (fun bt101 : Int × Bool => (if bt101.2 = true then (if bt101.1 > 2147483647 then (some (0, 5)) else (some (bt101.1, 0))) else (some (0, 5)) : Option (Int × Int))) = post := rfl
  unfold digit_Parse.f gramaryeref03_Parse.f gramaryebase_Whole.f
  rw [hp]
  by_cases h0 : (s.size : Int) = 0
  · rw [if_pos h0, if_pos ((empty_iff s).2 h0)]; exact jumps s k _
  · rw [if_neg h0, if_neg (fun h => h0 ((empty_iff s).1 h))]
    by_cases h1 : (s.size : Int) > 10
    · rw [if_pos h1, if_pos h1]; exact jumps s k _
    · rw [if_neg h1, if_neg h1]
      by_cases h2 : (s.size : Int) > 1
      · rw [if_pos h2, if_pos h2, if_pos (by omega), if_pos (by omega)]; exact jumps s k _
      · rw [if_neg h2, if_neg h2]; exact jumps s k _
theorem answers20 (s : ByteArray) : ∃ n e, (e = 0 ∨ e = 5) ∧ ∀ k, 20 ≤ k → digit_Parse.f k s = some (n, e) := by
  have post_e : ∀ (x : Option (Int × Bool)) (r : Int × Int), x.bind post = some r → r.2 = 0 ∨ r.2 = 5 := by
    intro x r h
    cases x with
    | none => exact absurd h (by simp)
    | some b =>
      simp only [Option.bind_some, post] at h
      split at h
      · split at h <;> (injection h with h; subst h; simp)
      · injection h with h; subst h; simp
  have hj : ∀ b : Bool, (b = true ∨ s.size ≤ 10) → ∃ r, digit_Parse.j0 20 s b = some r := fun b hb => by
    rw [jumps s 19]
    simp only [gramaryebase_Whole.j0]
    cases b
    · obtain ⟨r, hr⟩ := ends s (by have := hb.resolve_left (by decide); omega) 10 19 0 0 (by omega) (by have := hb.resolve_left (by decide); omega) (by omega)
      have hr' : gramaryebase_Whole.l0 19 s 0 0 = some r := hr
      simp only [Bool.false_eq_true, if_false]
      rw [hr']
      simp only [Option.bind_some, post]
      split
      · split <;> exact ⟨_, rfl⟩
      · exact ⟨_, rfl⟩
    · exact ⟨_, rfl⟩
  have hf : ∃ b : Bool, (b = true ∨ s.size ≤ 10) ∧ digit_Parse.f 20 s = digit_Parse.j0 20 s b := by
    unfold digit_Parse.f
    by_cases h0 : (s.size : Int) = 0
    · exact ⟨true, .inl rfl, by rw [if_pos h0]⟩
    · rw [if_neg h0]
      by_cases h1 : (s.size : Int) > 10
      · exact ⟨true, .inl rfl, by rw [if_pos h1]⟩
      · rw [if_neg h1]
        by_cases h2 : (s.size : Int) > 1
        · exact ⟨bt s 0 == 48, .inr (by omega), by rw [if_pos h2, if_pos (by omega)]⟩
        · exact ⟨false, .inr (by omega), by rw [if_neg h2]⟩
  obtain ⟨b, hb, he⟩ := hf
  obtain ⟨r, hr⟩ := hj b hb
  have h20 : digit_Parse.f 20 s = some r := he.trans hr
  refine ⟨r.1, r.2, ?_, fun k hk => at_rounds (digit_Parse.mono s) hk h20⟩
  rw [jumps s 19] at hr
  exact post_e _ r hr

def DR (a b n e : Int) : Int × ByteArray × Int × Int × Int × Bool := (4, (⟨#[]⟩ : ByteArray), n, a, b - a, e == 0)
theorem oneD_fin (s : ByteArray) (k : Nat) (a i n e : Int) (h0 : 0 ≤ a) (h1 : a ≤ i) (h2 : i ≤ (s.size : Int)) (hp : gramaryeref03_Parse.f k (s.extract a.toNat i.toNat) = some (n, e)) :
    (if 0 ≤ a then (if a ≤ i then (if i ≤ (s.size : Int) then ((gramaryeref03_Parse.f k (s.extract (a : Int).toNat (i : Int).toNat)).bind fun bt121 => (some ((4 : Int), (⟨#[]⟩ : ByteArray), bt121.1, a, i - a, (bt121.2 == 0)))) else (none)) else (none)) else (none)) = some (DR a i n e) := by
  rw [if_pos h0, if_pos h1, if_pos h2, hp]
  rfl
theorem oneD_loop (s : ByteArray) (hs : s.size ≤ 1000000) (a n e : Int) (h0 : 0 ≤ a) (d : Nat) : ∀ (k : Nat) (i : Int), a ≤ i → i ≤ (s.size : Int) → (s.size : Int) - i = d → d + 30 ≤ k →
    (∀ k, 20 ≤ k → gramaryeref03_Parse.f k (s.extract a.toNat (runF numB s i).toNat) = some (n, e)) →
    gramaryeref28_one.l1 k s a (i - a) 0 (⟨#[]⟩ : ByteArray) 0 a = some (DR a (runF numB s i) n e) := by
  induction d with
  | zero =>
    intro k i h1 h2 hd hk hp
    obtain ⟨k, rfl⟩ : ∃ m, k = m + 1 := ⟨k - 1, by omega⟩
    have hi : wrap64 (a + (i - a)) = i := by rw [w64 (by omega) (by omega)]; omega
    rw [runF_end numB s i (by omega)] at hp ⊢
    rw [gramaryeref28_one.l1, hi, if_neg (by omega)]
    exact oneD_fin s k a i n e h0 h1 h2 (hp k (by omega))
  | succ d ih =>
    intro k i h1 h2 hd hk hp
    obtain ⟨k, rfl⟩ : ∃ m, k = m + 1 := ⟨k - 1, by omega⟩
    have hi : wrap64 (a + (i - a)) = i := by rw [w64 (by omega) (by omega)]; omega
    have hn : wrap64 (i - a + 1) = (i + 1) - a := by rw [w64 (by omega) (by omega)]; omega
    rw [gramaryeref28_one.l1, hi, if_pos (by omega), if_pos (by omega), num_ref, hn]
    rw [runF_step numB s i (by omega)] at hp ⊢
    simp only [Option.bind_some]
    cases hm : numB (bt s i) with
    | true =>
      rw [hm, if_pos rfl] at hp
      simp only [if_true]
      exact ih k (i + 1) (by omega) (by omega) (by omega) (by omega) hp
    | false =>
      rw [hm, if_neg (by decide)] at hp
      simp only [Bool.false_eq_true, if_false]
      exact oneD_fin s k a i n e h0 h1 h2 (hp k (by omega))
theorem oneD (s : ByteArray) (hs : s.size ≤ 1000000) (a n e : Int) (h0 : 0 ≤ a) (h1 : a < (s.size : Int)) (hl : letB (bt s a) = false) (hm : numB (bt s a) = true)
    (hp : ∀ k, 20 ≤ k → digit_Parse.f k (s.extract a.toNat (runF numB s (a + 1)).toNat) = some (n, e)) :
    ∃ k0, ∀ k, k0 ≤ k → gramaryeref28_one.f k s a = some (DR a (runF numB s (a + 1)) n e) := by
  refine ⟨s.size + 30, fun k hk => ?_⟩
  have hr : runF numB s a = runF numB s (a + 1) := by rw [runF_step numB s a h1, if_pos hm]
  have h := oneD_loop s hs a n e h0 ((s.size : Int) - a).toNat k a (Int.le_refl _) (by omega) (by omega) (by omega)
    (fun k hk => by
      obtain ⟨k, rfl⟩ : ∃ m, k = m + 1 := ⟨k - 1, by omega⟩
      rw [← parses, hr]
      exact hp _ hk)
  rw [Int.sub_self, hr] at h
  unfold gramaryeref28_one.f
  rw [if_pos h0, if_pos h1, letter_ref, hl, num_ref, hm]
  simp only [Option.bind_some, if_true, Bool.false_eq_true, if_false]
  exact h

/-! signs -/
def twoT : List ByteArray := [⟨#[58, 61]⟩, ⟨#[61, 61]⟩, ⟨#[33, 61]⟩, ⟨#[60, 61]⟩, ⟨#[124, 124]⟩, ⟨#[38, 38]⟩]
def oneT : List ByteArray := [⟨#[60]⟩, ⟨#[61]⟩, ⟨#[43]⟩, ⟨#[45]⟩, ⟨#[42]⟩, ⟨#[33]⟩, ⟨#[46]⟩, ⟨#[40]⟩, ⟨#[41]⟩, ⟨#[123]⟩, ⟨#[125]⟩, ⟨#[44]⟩, ⟨#[58]⟩]
theorem signs_ref : gramaryeref28_signs.f = some (twoT ++ oneT) := rfl
def beginsB (r t : ByteArray) : Bool := decide (t.size ≤ r.size) && ((r.extract 0 t.size).toList == t.toList)
theorem begins_ref (r t : ByteArray) : gramaryebase_Begins.f r t = some (beginsB r t) := by
  unfold gramaryebase_Begins.f beginsB
  by_cases h : t.size ≤ r.size
  · rw [if_pos (by omega), if_pos (by omega), if_pos (by omega), decide_eq_true h]
    simp
  · rw [if_neg (by omega), decide_eq_false h]
    rfl
theorem oneS_loop (s : ByteArray) (a : Int) (h0 : 0 ≤ a) (h1 : a ≤ (s.size : Int)) (L : List ByteArray) (hL : L.length ≤ 1000) (d : Nat) : ∀ (k : Nat) (j : Int), 0 ≤ j → (L.length : Int) - j = d → d < k →
    gramaryeref28_one.l2 k s a L j 0 (⟨#[]⟩ : ByteArray) 0 a = some (match (L.drop j.toNat).find? (beginsB (s.extract a.toNat s.size)) with | some t => (5, t, 0, a, (t.size : Int), true) | none => (0, (⟨#[]⟩ : ByteArray), 0, a, 0, false)) := by
  induction d with
  | zero =>
    intro k j hj hd hk
    obtain ⟨k, rfl⟩ : ∃ m, k = m + 1 := ⟨k - 1, by omega⟩
    rw [gramaryeref28_one.l2, if_neg (by omega), List.drop_eq_nil_of_le (by omega)]
    rfl
  | succ d ih =>
    intro k j hj hd hk
    obtain ⟨k, rfl⟩ : ∃ m, k = m + 1 := ⟨k - 1, by omega⟩
    have hlt : j.toNat < L.length := by omega
    have hrd : rdOf ByteArray.empty L j = L[j.toNat] := by unfold rdOf; rw [List.getD_eq_getElem?_getD, List.getElem?_eq_getElem hlt]; rfl
    rw [gramaryeref28_one.l2, if_pos (by omega), if_pos h0, if_pos h1, if_pos hj, hrd, begins_ref, List.drop_eq_getElem_cons hlt, List.find?_cons]
    simp only [Option.bind_some]
    cases hb : beginsB (s.extract a.toNat s.size) L[j.toNat] with
    | true => simp only [if_true]
    | false =>
      simp only [Bool.false_eq_true, if_false]
      rw [w64 (by omega) (by omega), ih k (j + 1) (by omega) (by omega) (by omega), show (j + 1).toNat = j.toNat + 1 by omega]
theorem begins_iff (r t : ByteArray) (m : Nat) (ht : t.size = m) (hm : m ≤ r.size) : beginsB r t = true ↔ r.extract 0 m = t := by
  unfold beginsB
  rw [ht, decide_eq_true hm, Bool.true_and, beq_iff_eq, tl_iff]
theorem find_same (r : ByteArray) (m : Nat) (hm : m ≤ r.size) : ∀ (T : List ByteArray), (∀ t ∈ T, t.size = m) → T.find? (beginsB r) = @ite (Option ByteArray) (r.extract 0 m ∈ T) (Classical.propDecidable _) (some (r.extract 0 m)) none
  | [], _ => by rw [if_neg (by simp)]; rfl
  | t :: T, h => by
    rw [List.find?_cons]
    have hi := begins_iff r t m (h t List.mem_cons_self) hm
    cases hb : beginsB r t with
    | true =>
      have e := hi.1 hb
      rw [if_pos (by rw [e]; exact List.mem_cons_self), e]
    | false =>
      have ne : r.extract 0 m ≠ t := fun e => by rw [hi.2 e] at hb; exact absurd hb (by decide)
      simp only []
      rw [find_same r m hm T (fun t ht => h t (List.mem_cons_of_mem _ ht))]
      by_cases hT : r.extract 0 m ∈ T
      · rw [if_pos hT, if_pos (List.mem_cons_of_mem _ hT)]
      · rw [if_neg hT, if_neg (fun h => by rcases List.mem_cons.1 h with h | h; exact ne h; exact hT h)]
theorem find_big (r : ByteArray) (m : Nat) (hm : r.size < m) : ∀ (T : List ByteArray), (∀ t ∈ T, t.size = m) → T.find? (beginsB r) = none := by
  intro T h
  rw [List.find?_eq_none]
  intro t ht hb
  unfold beginsB at hb
  rw [h t ht, decide_eq_false (by omega)] at hb
  exact absurd hb (by simp)
theorem two_iff (x : ByteArray) : x ∈ twoT ↔ (twoL.any fun t => decide (x.toList = t)) = true := by
  have hm : twoT.map ByteArray.toList = twoL := by decide +kernel
  rw [List.any_eq_true]
  constructor
  · intro h
    exact ⟨x.toList, by rw [← hm]; exact List.mem_map_of_mem h, decide_eq_true rfl⟩
  · rintro ⟨t, ht, he⟩
    rw [← hm] at ht
    obtain ⟨y, hy, e⟩ := List.mem_map.1 ht
    rw [tl_inj (e.trans (of_decide_eq_true he).symm)] at hy
    exact hy
theorem one_iff (r : ByteArray) (h : 1 ≤ r.size) : r.extract 0 1 ∈ oneT ↔ 0 ≤ oneI (bt r 0) := by
  have hm : oneT.map ByteArray.toList = ((⟨#[60, 61, 43, 45, 42, 33, 46, 40, 41, 123, 125, 44, 58]⟩ : ByteArray).data.toList).map (fun b => [b]) := by decide +kernel
  have hl := dlen r
  obtain ⟨b, l, hd⟩ : ∃ b l, r.data.toList = b :: l := by
    cases hr : r.data.toList with
    | nil => rw [hr] at hl; simp at hl; omega
    | cons b l => exact ⟨b, l, rfl⟩
  have hb : bt r 0 = (b.toNat : Int) := by rw [bt_eq, hd]; rfl
  have hx : (r.extract 0 1).toList = [b] := by rw [tl, dext0, hd]; rfl
  have hu : (bt r 0).toNat.toUInt8 = b := by rw [hb]; simp
  unfold oneI
  rw [hu, ← decide_eq_true_iff (p := 0 ≤ _), ← Lib.contains_iff_indexByte, List.contains_iff_mem]
  constructor
  · intro h1
    have := List.mem_map_of_mem (f := ByteArray.toList) h1
    rw [hm, hx] at this
    obtain ⟨c, hc, e⟩ := List.mem_map.1 this
    injection e with e
    rw [← e]
    exact hc
  · intro h1
    have : [b] ∈ oneT.map ByteArray.toList := by rw [hm]; exact List.mem_map_of_mem (f := fun b => [b]) h1
    obtain ⟨y, hy, e⟩ := List.mem_map.1 this
    rw [← tl_inj (e.trans hx.symm)]
    exact hy
theorem signs_is (r : ByteArray) (h : 1 ≤ r.size) : (twoT ++ oneT).find? (beginsB r) = if signN r = 0 then none else some (r.extract 0 (signN r).toNat) := by
  have h2 : ∀ t ∈ twoT, t.size = 2 := by decide +kernel
  have h1 : ∀ t ∈ oneT, t.size = 1 := by decide +kernel
  rw [List.find?_append, find_same r 1 h oneT h1]
  unfold signN
  by_cases hz : 1 < r.size
  · rw [find_same r 2 (by omega) twoT h2]
    by_cases ht : r.extract 0 2 ∈ twoT
    · have c : 1 < r.size ∧ (twoL.any fun t => decide ((r.extract 0 2).toList = t)) = true := ⟨hz, (two_iff _).1 ht⟩
      rw [if_pos ht, if_pos c, Option.some_or, if_neg (by decide)]
      rfl
    · have c : ¬ (1 < r.size ∧ (twoL.any fun t => decide ((r.extract 0 2).toList = t)) = true) := fun c => ht ((two_iff _).2 c.2)
      rw [if_neg ht, if_neg c, Option.none_or]
      by_cases ho : r.extract 0 1 ∈ oneT
      · rw [if_pos ho, if_pos ((one_iff r h).1 ho), if_neg (by decide)]
        rfl
      · rw [if_neg ho, if_neg (fun c => ho ((one_iff r h).2 c)), if_pos rfl]
  · have c : ¬ (1 < r.size ∧ (twoL.any fun t => decide ((r.extract 0 2).toList = t)) = true) := fun c => hz c.1
    rw [find_big r 2 (by omega) twoT h2, if_neg c, Option.none_or]
    by_cases ho : r.extract 0 1 ∈ oneT
    · rw [if_pos ho, if_pos ((one_iff r h).1 ho), if_neg (by decide)]
      rfl
    · rw [if_neg ho, if_neg (fun c => ho ((one_iff r h).2 c)), if_pos rfl]
theorem signN_cases (r : ByteArray) : signN r = 0 ∨ signN r = 1 ∨ signN r = 2 ∧ 1 < r.size := by
  unfold signN
  split
  · rename_i h; exact .inr (.inr ⟨rfl, h.1⟩)
  · split <;> simp
theorem oneS (s : ByteArray) (a : Int) (h0 : 0 ≤ a) (h1 : a < (s.size : Int)) (hl : letB (bt s a) = false) (hm : numB (bt s a) = false) :
    ∃ k0, ∀ k, k0 ≤ k → gramaryeref28_one.f k s a = some (if signN (s.extract a.toNat s.size) = 0 then (0, (⟨#[]⟩ : ByteArray), 0, a, 0, false) else (5, (s.extract a.toNat s.size).extract 0 (signN (s.extract a.toNat s.size)).toNat, 0, a, signN (s.extract a.toNat s.size), true)) := by
  refine ⟨100, fun k hk => ?_⟩
  have hsz : (s.extract a.toNat s.size).size = s.size - a.toNat := by rw [ByteArray.size_extract]; omega
  have h := oneS_loop s a h0 (by omega) (twoT ++ oneT) (by decide) 19 k 0 (by omega) rfl (by omega)
  rw [show (0 : Int).toNat = 0 from rfl, List.drop_zero, signs_is _ (by omega)] at h
  unfold gramaryeref28_one.f
  rw [if_pos h0, if_pos h1, letter_ref, hl, num_ref, hm, signs_ref]
  simp only [Option.bind_some, if_true, Bool.false_eq_true, if_false]
  rw [h]
  congr 1
  by_cases hn : signN (s.extract a.toNat s.size) = 0
  · rw [if_pos hn, if_pos hn]
  · have hz : (((s.extract a.toNat s.size).extract 0 (signN (s.extract a.toNat s.size)).toNat).size : Int) = signN (s.extract a.toNat s.size) := by
      rw [ByteArray.size_extract]
      rcases signN_cases (s.extract a.toNat s.size) with c | c | ⟨c, d⟩ <;> rw [c] <;> omega
    rw [if_neg hn, if_neg hn]
    simp only []
    rw [hz]

/-! the whole text -/
theorem skipF_props (s : ByteArray) : ∀ (d : Nat) (i l : Int), (s.size : Int) - i ≤ d → i ≤ (s.size : Int) →
    i ≤ (skipF s i l).1 ∧ (skipF s i l).1 ≤ (s.size : Int) ∧ ((skipF s i l).1 < (s.size : Int) → bt s (skipF s i l).1 ≠ 10 ∧ ¬ (bt s (skipF s i l).1 = 32 ∨ bt s (skipF s i l).1 = 9 ∨ bt s (skipF s i l).1 = 13)) := by
  intro d
  induction d with
  | zero =>
    intro i l h h2
    rw [skipF_end s i l (by omega)]
    exact ⟨Int.le_refl _, h2, fun h3 => absurd h3 (by simp only []; omega)⟩
  | succ d ih =>
    intro i l h h2
    by_cases h1 : i < (s.size : Int)
    · rw [skipF_step s i l h1]
      by_cases a : bt s i = 10
      · rw [if_pos a]
        obtain ⟨x, y, z⟩ := ih (i + 1) (if l < 0 then i else l) (by omega) (by omega)
        exact ⟨by omega, y, z⟩
      · rw [if_neg a]
        by_cases b : bt s i = 32 ∨ bt s i = 9 ∨ bt s i = 13
        · rw [if_pos b]
          obtain ⟨x, y, z⟩ := ih (i + 1) l (by omega) (by omega)
          exact ⟨by omega, y, z⟩
        · rw [if_neg b]
          exact ⟨Int.le_refl _, h2, fun _ => ⟨a, b⟩⟩
    · rw [skipF_end s i l (by omega)]
      exact ⟨Int.le_refl _, h2, fun h3 => absurd h3 (by simp only []; omega)⟩
theorem resv_short (x : ByteArray) (h : resvB x = true) : x.size ≤ 7 := by
  unfold resvB at h
  obtain ⟨t, ht, he⟩ := List.any_eq_true.1 h
  have e := tl_inj (beq_iff_eq.1 he)
  have h7 : ∀ t ∈ resvL, t.size ≤ 7 := by decide +kernel
  rw [← e]
  exact h7 t ht
theorem add_len (out : List S31) (feed : Int) (t : S31) : (addT out feed t).length ≤ out.length + 2 ∧ out.length + 1 ≤ (addT out feed t).length := by
  unfold addT
  split <;> simp
theorem piece_of (k : Nat) (s : ByteArray) (at_ fr ln kd : Int) (ts : ByteArray) (tn tp er : Int) (r : PR) (h0 : 0 ≤ at_) (h1 : at_ ≤ (s.size : Int)) (h2 : s.size ≤ 140737488351232) (h : startR k s at_ fr ln kd ts tn tp er = some r) :
    token_scanner_piece.f k s at_ fr ln kd ts tn tp er = some (r.1, s, r.2) := by
  unfold token_scanner_piece.f
  rw [if_pos ⟨h0, h1, h2⟩, h]
theorem allG_tok (a0 s : ByteArray) (n : Nat) (l : List S31) (at_ fr kd : Int) (ts : ByteArray) (tn tp er at' fr' ln' kd' : Int) (ts' : ByteArray) (tn' tp' er' : Int) (hl : l.length + 2 < 3518437208883) (h0 : 0 ≤ at_) (h1 : at_ ≤ (s.size : Int)) (h2 : s.size ≤ 140737488351232)
    (h : startR 20 s at_ fr (-1) kd ts tn tp er = some (true, at', fr', ln', kd', ts', tn', tp', er')) :
    allG a0 (n + 1) l s at_ fr kd ts tn tp er = allG a0 n (addT l ln' ⟨kd', ts', tn', tp'⟩) s at' fr' kd' ts' tn' tp' er' := by
  rw [allG, piece_of 20 s at_ fr (-1) kd ts tn tp er _ h0 h1 h2 h]
  simp only [if_true]
  rw [if_pos hl]
  rfl
theorem allG_stop (a0 s : ByteArray) (n : Nat) (l : List S31) (at_ fr kd : Int) (ts : ByteArray) (tn tp er at' fr' ln' kd' : Int) (ts' : ByteArray) (tn' tp' er' : Int) (h0 : 0 ≤ at_) (h1 : at_ ≤ (s.size : Int)) (h2 : s.size ≤ 140737488351232)
    (h : startR 20 s at_ fr (-1) kd ts tn tp er = some (false, at', fr', ln', kd', ts', tn', tp', er')) :
    allG a0 (n + 1) l s at_ fr kd ts tn tp er = if er' = 0 then some (l, (a0.size : Int), 0) else some ([], fr', er') := by
  rw [allG, piece_of 20 s at_ fr (-1) kd ts tn tp er _ h0 h1 h2 h]
  simp only [Bool.false_eq_true, if_false]
theorem ext_size (s : ByteArray) (a b : Int) (h0 : 0 ≤ a) (h1 : a ≤ b) (h2 : b ≤ (s.size : Int)) : ((s.extract a.toNat b.toNat).size : Int) = b - a := by
  rw [ByteArray.size_extract]; omega
theorem all_is (s : ByteArray) (hs : s.size ≤ 1000000) : ∀ (n : Nat) (l : List S31) (at_ fr kd : Int) (ts : ByteArray) (tn tp : Int), 0 ≤ at_ → at_ ≤ (s.size : Int) → (s.size : Int) - at_ < n → (l.length : Int) + 2 * ((s.size : Int) - at_) + 2 < 3518437208883 →
    ∃ r, allG s n l s at_ fr kd ts tn tp 0 = some r ∧ EvR s l (-1) at_ r := by
  intro n
  induction n with
  | zero => intro l at_ fr kd ts tn tp h0 h1 h2; omega
  | succ n ih =>
    intro l at_ fr kd ts tn tp h0 h1 h2 h3
    obtain ⟨p1, p2, p3⟩ := skipF_props s ((s.size : Int) - at_).toNat at_ (-1) (by omega) h1
    have hev := fun r => ev_skip s hs l r ((s.size : Int) - at_).toNat at_ (-1) h0 (by omega)
    have hst : startR 20 s at_ fr (-1) kd ts tn tp 0 = atR 20 s (skipF s at_ (-1)).1 fr (skipF s at_ (-1)).2 kd ts tn tp 0 := rfl
    generalize (skipF s at_ (-1)).1 = a at p1 p2 p3 hev hst
    generalize (skipF s at_ (-1)).2 = f at hev hst
    unfold atR at hst
    by_cases ha : (s.size : Int) ≤ a
    · rw [if_pos ha] at hst
      refine ⟨(l, (s.size : Int), 0), ?_, hev _ (ev_end s l f a ha)⟩
      rw [allG_stop s s n l at_ fr kd ts tn tp 0 _ _ _ _ _ _ _ _ h0 h1 (by omega) hst, if_pos rfl]
    · rw [if_neg ha] at hst
      have ha1 : a < (s.size : Int) := by omega
      obtain ⟨q1, q2⟩ := p3 ha1
      have ha0 : 0 ≤ a := by omega
      cases hl : letB (bt s a) with
      | true =>
        rw [hl, if_pos rfl] at hst
        have hone := oneN s hs a ha0 ha1 hl
        have g1 := runF_ge wordB s ((s.size : Int) - (a + 1)).toNat (a + 1) (by omega)
        have g2 := runF_le wordB s ((s.size : Int) - (a + 1)).toNat (a + 1) (by omega) (by omega)
        generalize runF wordB s (a + 1) = b at hst hone g1 g2
        have hsz := ext_size s a b ha0 (by omega) g2
        unfold nameR at hst
        unfold NR at hone
        generalize s.extract a.toNat b.toNat = x at hst hone hsz
        by_cases hx : namedE x 0 = 0
        · rw [hx] at hst
          have h40 : b - a ≤ 40 := by
            unfold namedE at hx
            by_cases hr : resvB x = true
            · have := resv_short x hr; omega
            · rw [if_neg hr] at hx
              split at hx
              · exact absurd hx (by decide)
              · omega
          rw [decide_eq_true h40] at hone
          obtain ⟨r, hr1, hr2⟩ := ih (addT l f ⟨namedK x, x, 0, a⟩) b a (namedK x) x 0 a (by omega) g2 (by omega) (by have := (add_len l f ⟨namedK x, x, 0, a⟩).1; omega)
          refine ⟨r, ?_, hev r (ev_tok s hs l f a r ha0 ha1 q2 q1 (by omega) (namedK x) x 0 a (b - a) ⟨by omega, by omega⟩ hone ?_)⟩
          · rw [allG_tok s s n l at_ fr kd ts tn tp 0 b a f (namedK x) x 0 a 0 (by omega) h0 h1 (by omega) hst]
            exact hr1
          · rw [show a + (b - a) = b by omega]
            exact hr2
        · have h5 : namedE x 0 = 5 ∧ ¬ b - a ≤ 40 := by
            unfold namedE at hx ⊢
            by_cases hr : resvB x = true
            · rw [if_pos hr] at hx; exact absurd rfl hx
            · rw [if_neg hr] at hx ⊢
              split at hx
              · rename_i h; rw [if_pos h]; exact ⟨rfl, by omega⟩
              · exact absurd rfl hx
          rw [h5.1] at hst
          rw [decide_eq_false h5.2] at hone
          refine ⟨([], a, 5), ?_, hev _ (ev_bad s hs l f a ha0 ha1 q2 q1 ⟨_, _, _, _, _, hone⟩)⟩
          rw [allG_stop s s n l at_ fr kd ts tn tp 0 _ _ _ _ _ _ _ _ h0 h1 (by omega) hst, if_neg (by decide)]
      | false =>
        rw [hl, if_neg (by decide)] at hst
        cases hm : numB (bt s a) with
        | true =>
          rw [hm, if_pos rfl] at hst
          obtain ⟨v, e, he, hp⟩ := answers20 (s.extract a.toNat (runF numB s (a + 1)).toNat)
          have hone := oneD s hs a v e ha0 ha1 hl hm hp
          have g1 := runF_ge numB s ((s.size : Int) - (a + 1)).toNat (a + 1) (by omega)
          have g2 := runF_le numB s ((s.size : Int) - (a + 1)).toNat (a + 1) (by omega) (by omega)
          have hp20 := hp 20 (by omega)
          clear hp
          generalize runF numB s (a + 1) = b at hst hone g1 g2 hp20
          unfold digR at hst
          rw [hp20] at hst
          unfold DR at hone
          simp only [] at hst
          rcases he with rfl | rfl
          · obtain ⟨r, hr1, hr2⟩ := ih (addT l f ⟨4, ByteArray.empty, v, a⟩) b a 4 ByteArray.empty v a (by omega) g2 (by omega) (by have := (add_len l f ⟨4, ByteArray.empty, v, a⟩).1; omega)
            refine ⟨r, ?_, hev r (ev_tok s hs l f a r ha0 ha1 q2 q1 (by omega) 4 ByteArray.empty v a (b - a) ⟨by omega, by omega⟩ hone ?_)⟩
            · rw [allG_tok s s n l at_ fr kd ts tn tp 0 b a f 4 ByteArray.empty v a 0 (by omega) h0 h1 (by omega) hst]
              exact hr1
            · rw [show a + (b - a) = b by omega]
              exact hr2
          · refine ⟨([], a, 5), ?_, hev _ (ev_bad s hs l f a ha0 ha1 q2 q1 ⟨_, _, _, _, _, hone⟩)⟩
            rw [allG_stop s s n l at_ fr kd ts tn tp 0 _ _ _ _ _ _ _ _ h0 h1 (by omega) hst, if_neg (by decide)]
        | false =>
          rw [hm, if_neg (by decide)] at hst
          have hone := oneS s a ha0 ha1 hl hm
          have hR : (s.extract a.toNat s.size).size = s.size - a.toNat := by rw [ByteArray.size_extract]; omega
          have hcs := signN_cases (s.extract a.toNat s.size)
          unfold signR at hst
          generalize s.extract a.toNat s.size = R at hst hone hR hcs
          by_cases hz : signN R = 0
          · rw [if_pos hz] at hst
            simp only [if_pos hz] at hone
            refine ⟨([], a, 5), ?_, hev _ (ev_bad s hs l f a ha0 ha1 q2 q1 ⟨_, _, _, _, _, hone⟩)⟩
            rw [allG_stop s s n l at_ fr kd ts tn tp 0 _ _ _ _ _ _ _ _ h0 h1 (by omega) hst, if_neg (by decide)]
          · rw [if_neg hz] at hst
            simp only [if_neg hz] at hone
            generalize signN R = m at hst hone hcs hz
            have hm1 : 1 ≤ m ∧ a + m ≤ (s.size : Int) := by rcases hcs with h | h | ⟨h, h'⟩ <;> omega
            obtain ⟨r, hr1, hr2⟩ := ih (addT l f ⟨5, R.extract 0 m.toNat, 0, a⟩) (a + m) a 5 (R.extract 0 m.toNat) 0 a (by omega) hm1.2 (by omega) (by have := (add_len l f ⟨5, R.extract 0 m.toNat, 0, a⟩).1; omega)
            refine ⟨r, ?_, hev r (ev_tok s hs l f a r ha0 ha1 q2 q1 (by omega) 5 (R.extract 0 m.toNat) 0 a m ⟨by omega, by omega⟩ hone hr2)⟩
            rw [allG_tok s s n l at_ fr kd ts tn tp 0 (a + m) a f 5 (R.extract 0 m.toNat) 0 a 0 (by omega) h0 h1 (by omega) hst]
            exact hr1

theorem short_is (s : ByteArray) : ∃ t, gramaryelaw28_short.f s = some t ∧ t.size ≤ 2000 ∧ t.size ≤ s.size := by
  refine ⟨s.extract 0 (mn (s.size : Int) 2000).toNat, ?_, ?_⟩
  · unfold gramaryelaw28_short.f
    rw [if_pos (by unfold mn; split <;> omega), if_pos (by unfold mn; split <;> omega)]
  · rw [ByteArray.size_extract]
    unfold mn
    split <;> omega
theorem both (s : ByteArray) (hs : s.size ≤ 1000000) : ∃ r, token_All.f s = some r ∧ ∃ k0, ∀ k, k0 ≤ k → gramaryeref28_All.f k s = some r := by
  obtain ⟨r, h1, k0, h2⟩ := all_is s hs (s.size + 2) [] 0 0 0 ⟨#[]⟩ 0 0 (by omega) (by omega) (by omega) (by simp only [List.length_nil]; omega)
  refine ⟨r, ?_, k0, fun k hk => ?_⟩
  · unfold token_All.f
    rw [if_neg (by omega)]
    exact h1
  · unfold gramaryeref28_All.f
    rw [if_neg (by omega)]
    exact h2 k hk
theorem same_loop (l : List S31) (hl : l.length ≤ 9000000000000000000) (d : Nat) : ∀ (k : Nat) (i : Int), 0 ≤ i → (l.length : Int) - i ≤ d → d < k → gramaryelaw04_Same.l0 k l l i = some 1 := by
  induction d with
  | zero =>
    intro k i h0 hd hk
    obtain ⟨k, rfl⟩ : ∃ m, k = m + 1 := ⟨k - 1, by omega⟩
    rw [gramaryelaw04_Same.l0, if_neg (by omega)]
  | succ d ih =>
    intro k i h0 hd hk
    obtain ⟨k, rfl⟩ : ∃ m, k = m + 1 := ⟨k - 1, by omega⟩
    rw [gramaryelaw04_Same.l0]
    by_cases h : i < (l.length : Int)
    · rw [if_pos h, if_pos h0, if_pos h]
      simp only [beq_self_eq_true, Bool.not_true, Bool.or_self, Bool.false_eq_true, if_false]
      rw [w64 (by omega) (by omega)]
      exact ih k (i + 1) (by omega) (by omega) (by omega)
    · rw [if_neg h]
theorem same_self (l : List S31) (hl : l.length ≤ 9000000000000000000) (k : Nat) (hk : l.length < k) : gramaryelaw04_Same.f k l l = some 1 := by
  unfold gramaryelaw04_Same.f
  rw [if_pos rfl]
  exact same_loop l hl l.length k 0 (by omega) (by omega) hk
theorem works_true : gramaryelaw28_works.f = some true := by decide +kernel
theorem len_bound (s : ByteArray) (hs : s.size ≤ 1000000) : ∀ (n : Nat) (l : List S31) (s' : ByteArray) (at_ fr kd : Int) (ts : ByteArray) (tn tp er : Int) (r : List S31 × Int × Int), allG s n l s' at_ fr kd ts tn tp er = some r → r.1.length ≤ l.length + 2 * n := by
  intro n
  induction n with
  | zero => intro l s' at_ fr kd ts tn tp er r h; exact absurd h (by simp [allG])
  | succ n ih =>
    intro l s' at_ fr kd ts tn tp er r h
    rw [allG] at h
    split at h
    · exact absurd h (by simp)
    · split at h
      · split at h
        · have h1 := ih _ _ _ _ _ _ _ _ _ _ h
          have h2 : ∀ (f : Int) (t : S31), ((if 0 ≤ f ∧ 0 < l.length then l ++ [(⟨5, (⟨#[10]⟩ : ByteArray), 0, f⟩ : S31)] else l) ++ [t]).length ≤ l.length + 2 := fun f t => (add_len l f t).1
          exact Nat.le_trans h1 (by have := h2 ‹Int› ⟨0, ⟨#[]⟩, 0, 0⟩; refine Nat.le_trans (Nat.add_le_add_right (h2 _ _) _) (by omega))
        · exact absurd h (by simp)
      · split at h
        · injection h with h; subst h; simp only []; omega
        · injection h with h; subst h; simp
theorem TokenAll : gramaryelaw28_TokenAll.PureG := by
  intro a0 _
  obtain ⟨s, hs, hz, _⟩ := short_is a0
  obtain ⟨r, h1, k0, h2⟩ := both s (by omega)
  have hl : r.1.length ≤ 2 * (s.size + 2) := by
    have h := h1
    unfold token_All.f at h
    rw [if_neg (by omega)] at h
    have := len_bound s (by omega) _ _ _ _ _ _ _ _ _ _ _ h
    simp only [List.length_nil] at this
    omega
  refine ⟨k0 + 5000, ?_⟩
  unfold gramaryelaw28_TokenAll.f
  rw [hs]
  simp only [Option.bind_some]
  rw [h1]
  simp only [Option.bind_some]
  rw [h2 _ (by omega)]
  simp only [Option.bind_some]
  rw [same_self r.1 (by omega) _ (by omega), works_true]
  simp
end Go.Proofs.YtmpdilifoblnaaaDoor.Pure
