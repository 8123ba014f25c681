/- tuple.Cat is associative, and tuple.At of a word of tokens tells whole tokens ahead that may be, for every three texts (cut to 50 bytes), every word (cut to 100 tokens) and every place; there is no further condition. -/
import Derived.Test.YthpiofcjckmifaaMTupleWholex2
import Derived.Test.YthpiofcjckmifaaBase
namespace Go.Proofs.Ythpiofcjckmifaa.Pure
open Go.RowKit Go.Proofs.Ythpiofcjckmifaa.MTupleWhole Go.Proofs.YthpiofcjckmifaaW.PrintWords Go.Proofs.YthpiofcjckmifaaW.PrintLast Go.Proofs.YthpiofcjckmifaaW.PrintMore Go.Proofs.Ythpiofcjckmifaa.Base

/-! ### Cat -/
theorem cat_is (a b : ByteArray) (n : Int) (ha : a.size ≤ 100) (hb : b.size ≤ 100) (h0 : 1 ≤ n) (h1 : n ≤ 4) : tuple_Cat.f a b n = some ((a ++ b).extract 0 n.toNat) := by
  have hz : (a ++ b).size = a.size + b.size := ByteArray.size_append
  unfold tuple_Cat.f
  by_cases h : (a.size : Int) ≥ n
  · have e : mx n 0 = (n.toNat : Int) := by unfold mx; split <;> omega
    rw [if_pos h, e, if_pos (by omega), if_pos (by omega)]
    congr 1
    apply ext
    rw [dext0, dext0, dapp, List.take_append_of_le_length (by rw [dlen]; omega)]
    rfl
  · have e : wrap64 (n - (a.size : Int)) = n - (a.size : Int) := w64 (by omega) (by omega)
    have e2 : mn (n - (a.size : Int)) (b.size : Int) = ((min (n.toNat - a.size) b.size : Nat) : Int) := by unfold mn; split <;> omega
    rw [if_neg h, e, e2, if_pos (by omega), if_pos (by omega), if_pos (by simp; omega)]
    congr 1
    apply ext
    rw [dext0, dapp, dapp, dext0, List.take_append, dlen, List.take_of_length_le (l := a.data.toList) (by rw [dlen]; omega), Int.toNat_natCast]
    congr 1
    by_cases hm : n.toNat - a.size ≤ b.size
    · rw [Nat.min_eq_left hm]
    · rw [Nat.min_eq_right (by omega), List.take_of_length_le (by rw [dlen]; omega), List.take_of_length_le (by rw [dlen]; omega)]

theorem size_cut (a : ByteArray) (n : Nat) (h : n ≤ 4) : (a.extract 0 n).size ≤ 100 := by
  rw [← dlen, dext0, List.length_take]; omega

theorem cat_assoc (a b c : ByteArray) (n : Int) (ha : a.size ≤ 50) (hb : b.size ≤ 50) (hc : c.size ≤ 50) (h0 : 1 ≤ n) (h1 : n ≤ 4) :
    ∃ x y z, tuple_Cat.f a b n = some x ∧ tuple_Cat.f x c n = some y ∧ tuple_Cat.f b c n = some z ∧ tuple_Cat.f a z n = some y := by
  refine ⟨_, _, _, cat_is a b n (by omega) (by omega) h0 h1, cat_is _ c n (size_cut _ _ (by omega)) (by omega) h0 h1, cat_is b c n (by omega) (by omega) h0 h1, ?_⟩
  rw [cat_is a _ n (by omega) (size_cut _ _ (by omega)) h0 h1]
  congr 1
  apply ext
  simp only [dext0, dapp]
  generalize a.data.toList = A
  generalize b.data.toList = B
  generalize c.data.toList = C
  generalize n.toNat = m
  simp only [List.take_append, List.take_take, List.length_take, Nat.min_self, List.append_assoc]
  congr 1
  by_cases h : A.length ≤ m
  · congr 1
    · congr 1
      omega
    · congr 1
      omega
  · have e : m - A.length = 0 := by omega
    simp [e]
    omega

/-! ### At -/
def atv (l : List Int) (a : Int) (i : Nat) : Int := if 0 ≤ a + i ∧ a + i < l.length then rd l (a + i) % 256 else 0
def atl (l : List Int) (a : Int) (n : Nat) : List Int := (List.range n).map (atv l a)
theorem atl_length (l : List Int) (a : Int) (n : Nat) : (atl l a n).length = n := by simp [atl]
theorem atl_succ (l : List Int) (a : Int) (i : Nat) : atl l a (i + 1) = atl l a i ++ [atv l a i] := by simp [atl, List.range_succ]

theorem at_loop (l : List Int) (a : Int) (n : Nat) (hl : l.length ≤ 100) (hn : n ≤ 4) (h0 : -9223372036854775808 ≤ a) (h1 : a ≤ 9223372036854775807) (d : Nat) : ∀ (k i : Nat), i ≤ n → n - i = d → 2 * d < k →
    tuple_At.l0 k l a (atl l a i ++ List.replicate (n - i) 0) (n : Int) (i : Int) = some (strOfNums (atl l a n)) := by
  induction d with
  | zero =>
    intro k i hi hd hk
    obtain ⟨k, rfl⟩ : ∃ m, k = m + 1 := ⟨k - 1, by omega⟩
    obtain rfl : i = n := by omega
    simp only [tuple_At.l0]; rw [if_neg (by omega)]
    simp
  | succ d ih =>
    intro k i hi hd hk
    obtain ⟨k, rfl⟩ : ∃ m, k = m + 2 := ⟨k - 2, by omega⟩
    have h := ih k (i + 1) (by omega) (by omega) (by omega)
    have hw : wrap64 ((i : Int) + 1) = ((i + 1 : Nat) : Int) := by rw [w64 (by omega) (by omega)]; omega
    have hrep : List.replicate (n - i) (0 : Int) = 0 :: List.replicate (n - (i + 1)) 0 := by rw [show n - i = (n - (i + 1)) + 1 by omega, List.replicate_succ]
    have hz : (a < -4 ∨ a ≥ (l.length : Int)) → atl l a i ++ List.replicate (n - i) 0 = atl l a n := by
      intro hb
      have hat : ∀ j, j < 4 → atv l a j = 0 := fun j hj => by unfold atv; rw [if_neg (by omega)]
      apply List.ext_getElem
      · simp [atl]; omega
      · intro j hj1 hj2
        rw [atl_length] at hj2
        have : (atl l a n)[j]'(by rw [atl_length]; exact hj2) = 0 := by simp [atl]; exact hat j (by omega)
        rw [this, List.getElem_append]
        split
        · rename_i hlt; rw [atl_length] at hlt; simp [atl]; exact hat j (by omega)
        · simp
    simp only [tuple_At.l0]
    rw [if_pos (by omega)]
    by_cases c1 : a < -4
    · rw [if_pos c1]
      simp only [tuple_At.j1]
      rw [hz (.inl c1)]; rfl
    · rw [if_neg c1]
      by_cases c2 : a ≥ (l.length : Int)
      · rw [decide_eq_true c2]
        simp only [tuple_At.j1]
        rw [hz (.inr c2)]; rfl
      · rw [decide_eq_false c2]
        simp only [tuple_At.j1]
        rw [if_neg (by simp), w64 (x := a + i) (by omega) (by omega), hw]
        by_cases c3 : a + i ≥ 0
        · rw [if_pos c3]
          by_cases c4 : a + i < (l.length : Int)
          · have hlen : ((atl l a i ++ List.replicate (n - i) 0).length : Int) = n := by simp [atl_length]; omega
            rw [if_pos c4, if_pos (by omega), if_pos (by omega), if_pos (by omega), Int.toNat_natCast]
            have hset : (atl l a i ++ List.replicate (n - i) 0).set i (rd l (a + i) % 256) = atl l a (i + 1) ++ List.replicate (n - (i + 1)) 0 := by
              rw [atl_succ, List.set_append_right _ _ (by rw [atl_length]; omega), atl_length, Nat.sub_self, hrep]
              have : atv l a i = rd l (a + i) % 256 := by unfold atv; rw [if_pos (by omega)]
              simp [this]
            rw [hset]; exact h
          · rw [if_neg c4]
            have : atv l a i = 0 := by unfold atv; rw [if_neg (by omega)]
            rw [hrep]
            rw [atl_succ, this] at h
            simpa using h
        · rw [if_neg c3]
          have : atv l a i = 0 := by unfold atv; rw [if_neg (by omega)]
          rw [hrep]
          rw [atl_succ, this] at h
          simpa using h

theorem at_is (l : List Int) (a n : Int) (hl : l.length ≤ 100) (h0 : -9223372036854775808 ≤ a) (h1 : a ≤ 9223372036854775807) (k : Nat) (hk : 10 ≤ k) :
    tuple_At.f k l a n = some (strOfNums (atl l a (mx (mn n 4) 0).toNat)) := by
  have e : 0 ≤ mx (mn n 4) 0 ∧ mx (mn n 4) 0 ≤ 4 := by unfold mx mn; split <;> split <;> omega
  unfold tuple_At.f
  rw [if_pos e.1, if_pos (by omega)]
  simp only [Option.bind_some]
  have := at_loop l a (mx (mn n 4) 0).toNat hl (by omega) h0 h1 (mx (mn n 4) 0).toNat k 0 (by omega) (by omega) (by omega)
  simpa [atl] using this

/-! ### May -/
def ended (s : ByteArray) (i : Int) : Bool := decide (0 < i ∧ bt s (i - 1) = 0)
theorem may_loop (s : ByteArray) (hs : s.size ≤ 4) (hle : ∀ i, bt s i ≤ 60) (hz : ∀ i : Int, 0 ≤ i → i + 1 < s.size → bt s i = 0 → bt s (i + 1) = 0) (d : Nat) :
    ∀ (k : Nat) (i : Int), 0 ≤ i → i ≤ s.size → (s.size : Int) - i = d → d < k → tuple_May.l0 k s (ended s i) (s.size : Int) i = some true := by
  induction d with
  | zero =>
    intro k i h0 h1 hd hk
    obtain ⟨k, rfl⟩ : ∃ m, k = m + 1 := ⟨k - 1, by omega⟩
    simp only [tuple_May.l0]; rw [if_neg (by omega)]
  | succ d ih =>
    intro k i h0 h1 hd hk
    obtain ⟨k, rfl⟩ : ∃ m, k = m + 1 := ⟨k - 1, by omega⟩
    have hlt : i < (s.size : Int) := by omega
    have h := ih k (i + 1) (by omega) (by omega) (by omega) (by omega)
    have h60 := hle i
    have he : ended s (i + 1) = (bt s i == 0) := by
      unfold ended
      rw [show i + 1 - 1 = i by omega]
      by_cases hb : bt s i = 0
      · simp [hb]; omega
      · simp [hb]
    simp only [tuple_May.l0]
    rw [if_pos hlt, if_pos h0, if_pos hlt, if_neg (by omega), w64 (x := i + 1) (by omega) (by omega)]
    by_cases hE : ended s i = true
    · have hE' := hE
      unfold ended at hE'
      obtain ⟨hp, hb⟩ := of_decide_eq_true hE'
      have hb2 : bt s i = 0 := by
        have := hz (i - 1) (by omega) (by omega) hb
        rwa [show i - 1 + 1 = i by omega] at this
      rw [if_pos hE, if_pos hb2]
      rw [he, beq_iff_eq.2 hb2] at h
      exact h
    · rw [if_neg hE, ← he]; exact h

theorem may_is (s : ByteArray) (n : Int) (h0 : 1 ≤ n) (h1 : n ≤ 4) (hn : (s.size : Int) = n) (hle : ∀ i, bt s i ≤ 60) (hz : ∀ i : Int, 0 ≤ i → i + 1 < s.size → bt s i = 0 → bt s (i + 1) = 0) (k : Nat) (hk : 10 ≤ k) :
    tuple_May.f k s n = some true := by
  obtain ⟨k, rfl⟩ : ∃ m, k = m + 1 := ⟨k - 1, by omega⟩
  unfold tuple_May.f
  rw [if_neg (by omega), if_neg (by omega), decide_eq_false (by omega)]
  simp only [tuple_May.j0]
  rw [if_neg (by simp)]
  have := may_loop s (by omega) hle hz s.size k 0 (by omega) (by omega) (by omega) (by omega)
  rwa [show ended s 0 = false from by simp [ended]] at this

/-- A word of tokens. -/
def Toks (l : List Int) : Prop := ∀ x ∈ l, 1 ≤ x ∧ x ≤ 60
theorem rd_toks {l : List Int} (h : Toks l) {i : Int} (h0 : 0 ≤ i) (h1 : i < l.length) : 1 ≤ rd l i ∧ rd l i ≤ 60 := by
  unfold rd
  rw [List.getD_eq_getElem?_getD, List.getElem?_eq_getElem (by omega)]
  exact h _ (List.getElem_mem _)

theorem rd_atl (l : List Int) (a : Int) (n : Nat) (i : Int) (h0 : 0 ≤ i) (h1 : i < n) : rd (atl l a n) i = atv l a i.toNat := by
  unfold rd
  rw [List.getD_eq_getElem?_getD, List.getElem?_eq_getElem (by rw [atl_length]; omega)]
  simp [atl]
theorem rd_out (l : List Int) (i : Int) (h : l.length ≤ i.toNat) : rd l i = 0 := by
  unfold rd; rw [List.getD_eq_getElem?_getD, List.getElem?_eq_none h]; rfl

theorem ahead_may (l : List Int) (hl : Toks l) (hlen : l.length ≤ 100) (a : Int) (h0 : 0 ≤ a) (h1 : a ≤ 255) (n : Int) (hn0 : 1 ≤ n) (hn1 : n ≤ 4) :
    ∃ t, (∀ k, 10 ≤ k → tuple_At.f k l a n = some t) ∧ (t.size : Int) = n ∧ ∀ k, 10 ≤ k → tuple_May.f k t n = some true := by
  have e : (mx (mn n 4) 0).toNat = n.toNat := by unfold mx mn; split <;> split <;> omega
  have hsz : (strOfNums (atl l a n.toNat)).size = n.toNat := by rw [size_strOfNums, atl_length]
  refine ⟨strOfNums (atl l a n.toNat), fun k hk => by rw [at_is l a n hlen (by omega) (by omega) k hk, e], by omega, fun k hk => may_is _ n hn0 hn1 (by omega) ?_ ?_ k hk⟩
  · intro i
    rw [bt_strOfNums]
    by_cases hi : i.toNat < n.toNat
    · have hr := rd_atl l a n.toNat i.toNat (by omega) (by omega)
      have e1 : rd (atl l a n.toNat) i = rd (atl l a n.toNat) (i.toNat : Int) := by unfold rd; rw [Int.toNat_natCast]
      rw [e1, hr]
      unfold atv
      split
      · rename_i hc
        have := rd_toks hl hc.1 hc.2
        omega
      · simp
    · rw [rd_out _ _ (by rw [atl_length]; omega)]; simp
  · intro i hi0 hi1
    rw [bt_strOfNums, bt_strOfNums, rd_atl _ _ _ _ (by omega) (by omega), rd_atl _ _ _ _ (by omega) (by omega)]
    unfold atv
    intro hz
    split at hz
    · rename_i hc
      have := rd_toks hl hc.1 hc.2
      omega
    · rename_i hc
      rw [if_neg (by omega)]; rfl

theorem shorts (s : ByteArray) : ∃ r, gramaryelaw12_short.f s = some r ∧ r.size ≤ 50 := by
  have e : mn (s.size : Int) 50 = ((min s.size 50 : Nat) : Int) := by unfold mn; split <;> omega
  refine ⟨s.extract 0 (min s.size 50), ?_, ?_⟩
  · unfold gramaryelaw12_short.f
    rw [e, if_pos (by omega), if_pos (by omega), Int.toNat_natCast]
  · rw [← dlen, dext0, List.length_take]; omega

theorem works20 : gramaryelaw12_works.f 20 = some true := by decide +kernel

theorem tells (a b c : ByteArray) (ha : a.size ≤ 50) (hb : b.size ≤ 50) (hc : c.size ≤ 50) (p : Int) (hp0 : 0 ≤ p) (hp1 : p ≤ 255) (l : List Int) (hl : Toks l) (hlen : l.length ≤ 100) (d : Nat) :
    ∀ (k : Nat) (n : Int), 1 ≤ n → 5 - n = d → d + 20 < k → gramaryelaw12_TupleWhole.l1 k a b c p l n = some true := by
  induction d with
  | zero =>
    intro k n h0 hd hk
    obtain ⟨k, rfl⟩ : ∃ m, k = m + 1 := ⟨k - 1, by omega⟩
    simp only [gramaryelaw12_TupleWhole.l1]; rw [if_neg (by omega)]
  | succ d ih =>
    intro k n h0 hd hk
    obtain ⟨k, rfl⟩ : ∃ m, k = m + 1 := ⟨k - 1, by omega⟩
    obtain ⟨t, ht, hsz, hm⟩ := ahead_may l hl hlen p hp0 hp1 n h0 (by omega)
    obtain ⟨x, y, z, e1, e2, e3, e4⟩ := cat_assoc a b c n ha hb hc h0 (by omega)
    simp only [gramaryelaw12_TupleWhole.l1]
    rw [if_pos (by omega), w64 (x := p) (by omega) (by omega), ht k (by omega)]
    simp only [Option.bind_some]
    rw [if_pos hsz, hm k (by omega)]
    simp only [Option.bind_some, if_true]
    rw [e1]; simp only [Option.bind_some]
    rw [e2]; simp only [Option.bind_some]
    rw [e3]; simp only [Option.bind_some]
    rw [e4]; simp only [Option.bind_some, if_true]
    rw [w64 (x := n + 1) (by omega) (by omega)]
    exact ih k (n + 1) (by omega) (by omega) (by omega)

theorem made (a b c : ByteArray) (ha : a.size ≤ 50) (hb : b.size ≤ 50) (hc : c.size ≤ 50) (p : Int) (hp0 : 0 ≤ p) (hp1 : p ≤ 255) (w : List Int) (hw : ∀ x ∈ w, 0 ≤ x ∧ x ≤ 255) (d : Nat) :
    ∀ (k : Nat) (l : List Int), Toks l → l.length + d = 100 → d + 50 < k → gramaryelaw12_TupleWhole.l0 k a b c w p l (l.length : Int) = some true := by
  induction d with
  | zero =>
    intro k l hl hd hk
    obtain ⟨k, rfl⟩ : ∃ m, k = m + 2 := ⟨k - 2, by omega⟩
    have := tells a b c ha hb hc p hp0 hp1 l hl (by omega) 4 k 1 (by omega) (by omega) (by omega)
    simp only [gramaryelaw12_TupleWhole.l0, gramaryelaw12_TupleWhole.j1]
    by_cases h : (l.length : Int) < (w.length : Int)
    · rw [if_pos h, if_neg (by omega)]; exact this
    · rw [if_neg h]; exact this
  | succ d ih =>
    intro k l hl hd hk
    obtain ⟨k, rfl⟩ : ∃ m, k = m + 2 := ⟨k - 2, by omega⟩
    have := tells a b c ha hb hc p hp0 hp1 l hl (by omega) 4 k 1 (by omega) (by omega) (by omega)
    simp only [gramaryelaw12_TupleWhole.l0, gramaryelaw12_TupleWhole.j1]
    by_cases h : (l.length : Int) < (w.length : Int)
    · have hx : 0 ≤ rd w (l.length : Int) ∧ rd w (l.length : Int) ≤ 255 := by
        unfold rd
        rw [List.getD_eq_getElem?_getD, List.getElem?_eq_getElem (by omega)]
        exact hw _ (List.getElem_mem _)
      have ht : Int.tmod (rd w (l.length : Int)) 60 = rd w (l.length : Int) % 60 := Int.tmod_eq_emod_of_nonneg hx.1
      rw [if_pos h, if_pos (by omega), if_pos (by omega), if_pos (by omega), w64 (x := rd w (l.length : Int)) (by omega) (by omega), ht, w64 (x := 1 + rd w (l.length : Int) % 60) (by omega) (by omega), w64 (x := (l.length : Int) + 1) (by omega) (by omega)]
      have h2 := ih (k + 1) (l ++ [1 + rd w (l.length : Int) % 60]) ?_ (by simp; omega) (by omega)
      · simp only [List.length_append, List.length_singleton, Int.natCast_add, Int.natCast_one] at h2
        exact h2
      · intro x hx'
        rcases List.mem_append.1 hx' with h' | h'
        · exact hl x h'
        · simp at h'; omega
    · rw [if_neg h]; exact this

theorem TupleWhole : gramaryelaw12_TupleWhole.Pure := by
  intro a b c w p _ _ _ _ _ hw hp
  have hp2 : 0 ≤ p ∧ p ≤ 255 := by simpa [Lit.wf, IntKind.min, IntKind.max, IntKind.signed, IntKind.bits] using hp
  have hw2 : ∀ x ∈ w, 0 ≤ x ∧ x ≤ 255 := fun x hx => by simpa [Lit.wf, IntKind.min, IntKind.max, IntKind.signed, IntKind.bits] using hw x hx
  obtain ⟨a', ea, la⟩ := shorts a
  obtain ⟨b', eb, lb⟩ := shorts b
  obtain ⟨c', ec, lc⟩ := shorts c
  refine ⟨200, ?_⟩
  unfold gramaryelaw12_TupleWhole.f
  rw [at_rounds gramaryelaw12_works.mono (show 20 ≤ 200 by omega) works20, ea, eb, ec]
  simp only [Option.bind_some, if_true]
  exact made a' b' c' la lb lc p hp2.1 hp2.2 w hw2 100 200 [] (fun x hx => by simp at hx) (by simp) (by omega)

end Go.Proofs.Ythpiofcjckmifaa.Pure
