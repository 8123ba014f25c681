/- tuple.May, tuple.Cat and tuple.Of answer as the document says, for every pair of texts (cut to 50 bytes), every number and every list (cut to 50 numbers); there is no further condition. -/
import Derived.Test.YthpiofcjckmifaaMTupleTellsx3
import Derived.Test.YthpiofcjckmifaaBase
namespace Go.Proofs.Ythpiofcjckmifaa.Pure
open Go.RowKit Go.Proofs.Ythpiofcjckmifaa.MTupleTells Go.Proofs.YthpiofcjckmifaaW.PrintWords Go.Proofs.YthpiofcjckmifaaW.PrintLast Go.Proofs.YthpiofcjckmifaaW.PrintMore Go.Proofs.Ythpiofcjckmifaa.Base

/-- Was the byte ahead a 0? -/
def ended (s : ByteArray) (i : Int) : Bool := decide (0 < i ∧ bt s (i - 1) = 0)

theorem may_loops (s : ByteArray) (hs : s.size ≤ 140737488351232) (d : Nat) : ∀ (k : Nat) (i : Int), 0 ≤ i → i ≤ s.size → (s.size : Int) - i = d → d < k →
    ∃ r, tuple_May.l0 k s (ended s i) (s.size : Int) i = some r ∧ gramaryeref12_May.l0 k s i = some r := by
  induction d with
  | zero =>
    intro k i h0 h1 hd hk
    obtain ⟨k, rfl⟩ : ∃ m, k = m + 1 := ⟨k - 1, by omega⟩
    exact ⟨true, by simp only [tuple_May.l0]; rw [if_neg (by omega)], by simp only [gramaryeref12_May.l0]; rw [if_neg (by omega)]⟩
  | succ d ih =>
    intro k i h0 h1 hd hk
    obtain ⟨k, rfl⟩ : ∃ m, k = m + 1 := ⟨k - 1, by omega⟩
    have hlt : i < (s.size : Int) := by omega
    obtain ⟨r, hr1, hr2⟩ := ih k (i + 1) (by omega) (by omega) (by omega) (by omega)
    have he : ended s (i + 1) = (bt s i == 0) := by
      unfold ended
      rw [show i + 1 - 1 = i by omega]
      by_cases hb : bt s i = 0
      · simp [hb]; omega
      · simp [hb]
    simp only [tuple_May.l0, gramaryeref12_May.l0]
    rw [if_pos hlt, if_pos h0, if_pos hlt, if_pos hlt, if_pos h0, w64 (x := i + 1) (by omega) (by omega), w64 (x := i - 1) (by omega) (by omega)]
    by_cases h60 : bt s i > 60
    · rw [if_pos h60, if_pos h60]; exact ⟨false, rfl, rfl⟩
    · rw [if_neg h60, if_neg h60]
      by_cases hi : i > 0
      · rw [if_pos hi, if_pos (show 0 ≤ i - 1 by omega), if_pos (show i - 1 < (s.size : Int) by omega)]
        by_cases hp : bt s (i - 1) = 0
        · have hE : ended s i = true := by unfold ended; simp [hp, hi]
          rw [if_pos hE, if_pos hp]
          by_cases hb : bt s i = 0
          · rw [if_pos hb, if_pos hb]
            rw [he, beq_iff_eq.2 hb] at hr1
            exact ⟨r, hr1, hr2⟩
          · rw [if_neg hb, if_neg hb]; exact ⟨false, rfl, rfl⟩
        · have hE : ¬ (ended s i = true) := by unfold ended; simp [hp]
          rw [if_neg hE, if_neg hp, ← he]; exact ⟨r, hr1, hr2⟩
      · have hE : ¬ (ended s i = true) := by unfold ended; simp; omega
        rw [if_neg hi, if_neg hE, ← he]; exact ⟨r, hr1, hr2⟩

theorem mays (s : ByteArray) (n : Int) (hs : s.size ≤ 140737488351232) : ∃ r, tuple_May.f (s.size + 3) s n = some r ∧ gramaryeref12_May.f (s.size + 3) s n = some r := by
  have hj : ∀ b, ∃ r, tuple_May.j0 (s.size + 3) s b = some r ∧ gramaryeref12_May.j0 (s.size + 3) s b = some r := by
    intro b
    simp only [tuple_May.j0, gramaryeref12_May.j0]
    cases b with
    | true => exact ⟨false, rfl, rfl⟩
    | false =>
      have := may_loops s hs s.size (s.size + 2) 0 (by omega) (by omega) (by omega) (by omega)
      rw [show ended s 0 = false from by simp [ended]] at this
      exact this
  unfold tuple_May.f gramaryeref12_May.f
  by_cases h1 : n < 1
  · rw [if_pos h1, if_pos h1]; exact hj _
  · rw [if_neg h1, if_neg h1]
    by_cases h2 : n > 4
    · rw [if_pos h2, if_pos h2]; exact hj _
    · rw [if_neg h2, if_neg h2]; exact hj _

theorem cats (a b : ByteArray) (n : Int) (ha : a.size ≤ 50) (hb : b.size ≤ 50) (h0 : -9223372036854775808 ≤ n) (h1 : n ≤ 9223372036854775807) :
    ∃ r, tuple_Cat.f a b n = some r ∧ gramaryeref12_Cat.f a b n = some r := by
  have hz : (a ++ b).size = a.size + b.size := ByteArray.size_append
  refine ⟨(a ++ b).extract 0 n.toNat, ?_, ?_⟩
  · unfold tuple_Cat.f
    by_cases h : (a.size : Int) ≥ n
    · have e : mx n 0 = (n.toNat : Int) := by unfold mx; split <;> omega
      rw [if_pos h, e, if_pos (by omega), if_pos (by omega)]
      congr 1
      apply ext
      rw [dext0, dext0, dapp, List.take_append_of_le_length (by rw [dlen]; omega)]
      rfl
    · have e : wrap64 (n - (a.size : Int)) = n - (a.size : Int) := w64 (by omega) (by omega)
      have e2 : mn (n - (a.size : Int)) (b.size : Int) = ((min (n.toNat - a.size) b.size : Nat) : Int) := by unfold mn; split <;> omega
      rw [if_neg h, e, e2, if_pos (by omega), if_pos (by omega), if_pos (by simp; omega)]
      congr 1
      apply ext
      rw [dext0, dapp, dapp, dext0, List.take_append, dlen, List.take_of_length_le (l := a.data.toList) (by rw [dlen]; omega), Int.toNat_natCast]
      congr 1
      by_cases hm : n.toNat - a.size ≤ b.size
      · rw [Nat.min_eq_left hm]
      · rw [Nat.min_eq_right (by omega), List.take_of_length_le (by rw [dlen]; omega), List.take_of_length_le (by rw [dlen]; omega)]
  · unfold gramaryeref12_Cat.f
    have e2 : mx (mn ((a ++ b).size : Int) n) 0 = ((min (a ++ b).size n.toNat : Nat) : Int) := by unfold mx mn; split <;> split <;> omega
    rw [if_pos (by omega), e2, if_pos (by omega), if_pos (by omega)]
    congr 1
    apply ext
    rw [dext0, dext0, Int.toNat_natCast]
    by_cases hm : n.toNat ≤ (a ++ b).size
    · rw [Nat.min_eq_right hm]
    · rw [Nat.min_eq_left (by omega), List.take_of_length_le (by rw [dlen]; omega), List.take_of_length_le (by rw [dlen]; omega)]

/-- Numbers as bytes. -/
def low (l : List Int) : List Int := l.map (· % 256)
theorem rd_take (l : List Int) (i : Int) (h0 : 0 ≤ i) (h1 : i < l.length) : (low l).take (i + 1).toNat = (low l).take i.toNat ++ [rd l i % 256] := by
  have hl : i.toNat < (low l).length := by simp [low]; omega
  rw [show (i + 1).toNat = i.toNat + 1 by omega, List.take_succ_eq_append_getElem hl]
  congr 2
  simp [low, rd, List.getD_eq_getElem?_getD, List.getElem?_eq_getElem (show i.toNat < l.length by omega)]

theorem of_loop (l : List Int) (hl : l.length ≤ 50) (d : Nat) : ∀ (k : Nat) (i : Int), 0 ≤ i → i ≤ l.length → (l.length : Int) - i = d → d < k →
    tuple_Of.l0 k ((low l).take i.toNat ++ List.replicate (l.length - i.toNat) 0) l (l.length : Int) i = some (strOfNums (low l)) := by
  induction d with
  | zero =>
    intro k i h0 h1 hd hk
    obtain ⟨k, rfl⟩ : ∃ m, k = m + 1 := ⟨k - 1, by omega⟩
    simp only [tuple_Of.l0]; rw [if_neg (by omega)]
    rw [List.take_of_length_le (by simp [low]; omega), show l.length - i.toNat = 0 by omega]; simp
  | succ d ih =>
    intro k i h0 h1 hd hk
    obtain ⟨k, rfl⟩ : ∃ m, k = m + 1 := ⟨k - 1, by omega⟩
    have hlt : i < (l.length : Int) := by omega
    have h := ih k (i + 1) (by omega) (by omega) (by omega) (by omega)
    have hlen : (((low l).take i.toNat ++ List.replicate (l.length - i.toNat) 0).length : Int) = l.length := by simp [low]; omega
    have hset : ((low l).take i.toNat ++ List.replicate (l.length - i.toNat) 0).set i.toNat (rd l i % 256) = (low l).take (i + 1).toNat ++ List.replicate (l.length - (i + 1).toNat) 0 := by
      have hlo : ((low l).take i.toNat).length = i.toNat := by simp [low]; omega
      rw [rd_take l i h0 hlt, List.set_append_right _ _ (by omega), hlo, Nat.sub_self, show l.length - i.toNat = (l.length - (i + 1).toNat) + 1 by omega, List.replicate_succ]
      simp
    simp only [tuple_Of.l0]
    rw [if_pos hlt, if_pos h0, if_pos hlt, if_pos (by omega), w64 (x := i + 1) (by omega) (by omega), hset]
    exact h

theorem ref_of_loop (l : List Int) (hl : l.length ≤ 50) (d : Nat) : ∀ (k : Nat) (i : Int), 0 ≤ i → i ≤ l.length → (l.length : Int) - i = d → d < k →
    gramaryeref12_Of.l0 k l ((low l).take i.toNat) i = some (strOfNums (low l)) := by
  induction d with
  | zero =>
    intro k i h0 h1 hd hk
    obtain ⟨k, rfl⟩ : ∃ m, k = m + 1 := ⟨k - 1, by omega⟩
    simp only [gramaryeref12_Of.l0]; rw [if_neg (by omega)]
    rw [List.take_of_length_le (by simp [low]; omega)]
  | succ d ih =>
    intro k i h0 h1 hd hk
    obtain ⟨k, rfl⟩ : ∃ m, k = m + 1 := ⟨k - 1, by omega⟩
    have hlt : i < (l.length : Int) := by omega
    have h := ih k (i + 1) (by omega) (by omega) (by omega) (by omega)
    simp only [gramaryeref12_Of.l0]
    rw [if_pos hlt, if_pos h0, if_pos (by simp [low]; omega), w64 (x := i + 1) (by omega) (by omega), ← rd_take l i h0 hlt]
    exact h

theorem ofs (l : List Int) (hl : l.length ≤ 50) : ∃ r, tuple_Of.f 60 l = some r ∧ gramaryeref12_Of.f 60 l = some r := by
  refine ⟨strOfNums (low l), ?_, ?_⟩
  · unfold tuple_Of.f
    rw [if_pos (by omega), if_pos (by omega)]
    have := of_loop l hl l.length 60 0 (by omega) (by omega) (by omega) (by omega)
    simpa using this
  · unfold gramaryeref12_Of.f
    have := ref_of_loop l hl l.length 60 0 (by omega) (by omega) (by omega) (by omega)
    simpa using this

theorem shorts (s : ByteArray) : ∃ r, gramaryelaw12_short.f s = some r ∧ r.size ≤ 50 := by
  have e : mn (s.size : Int) 50 = ((min s.size 50 : Nat) : Int) := by unfold mn; split <;> omega
  refine ⟨s.extract 0 (min s.size 50), ?_, ?_⟩
  · unfold gramaryelaw12_short.f
    rw [e, if_pos (by omega), if_pos (by omega), Int.toNat_natCast]
  · rw [← dlen, dext0, List.length_take]; omega

theorem works20 : gramaryelaw12_works.f 20 = some true := by decide +kernel

theorem TupleTells : gramaryelaw12_TupleTells.Pure := by
  intro a b n l ha hb hn hl _ _
  have hn2 : -9223372036854775808 ≤ n ∧ n ≤ 9223372036854775807 := by simpa [Lit.wf, IntKind.min, IntKind.max, IntKind.signed, IntKind.bits] using hn
  obtain ⟨a', ea, la⟩ := shorts a
  obtain ⟨b', eb, lb⟩ := shorts b
  have em : mn (l.length : Int) 50 = ((min l.length 50 : Nat) : Int) := by unfold mn; split <;> omega
  have hlen : (l.take (min l.length 50)).length ≤ 50 := by rw [List.length_take]; omega
  have ei : ∀ x : List Int, x.length ≤ 50 → gramaryebase_Ints.f x = some x := fun x hx => by
    unfold gramaryebase_Ints.f; simp only [Option.bind_some]; rw [if_pos (by simp; omega)]; simp
  obtain ⟨r1, m1, m2⟩ := mays a' n (by omega)
  obtain ⟨r2, c1, c2⟩ := cats a' b' n la lb hn2.1 hn2.2
  obtain ⟨r3, o1, o2⟩ := ofs _ hlen
  refine ⟨60, ?_⟩
  unfold gramaryelaw12_TupleTells.f
  rw [ea, eb]
  simp only [Option.bind_some]
  rw [em, if_pos (by omega), if_pos (by omega), Int.toNat_natCast, ei _ hlen]
  simp only [Option.bind_some]
  rw [at_rounds (tuple_May.mono a' n) (show a'.size + 3 ≤ 60 by omega) m1, at_rounds (gramaryeref12_May.mono a' n) (show a'.size + 3 ≤ 60 by omega) m2]
  simp only [Option.bind_some, beq_self_eq_true, if_true]
  rw [c1, c2]
  simp only [Option.bind_some, if_true]
  rw [ei _ hlen]
  simp only [Option.bind_some]
  rw [o1, o2]
  simp only [Option.bind_some, if_true]
  rw [at_rounds gramaryelaw12_works.mono (show 20 ≤ 60 by omega) works20]
  rfl

end Go.Proofs.Ythpiofcjckmifaa.Pure
