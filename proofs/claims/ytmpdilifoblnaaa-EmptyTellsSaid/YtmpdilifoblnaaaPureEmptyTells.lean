/- The pure part of a law. -/
import Derived.Test.YtmpdilifoblnaaaStatEmptyTells
import Derived.Test.YtmpdilifoblnaaaBase
import Derived.Test.YtmpdilifoblnaaaFix
namespace Go.Proofs.Ytmpdilifoblnaaa.Pure
open Go.RowKit Go.Proofs.Ytmpdilifoblnaaa.MEmptyTells Go.Proofs.YtmpdilifoblnaaaW.PrintWords Go.Proofs.YtmpdilifoblnaaaW.PrintLast Go.Proofs.YtmpdilifoblnaaaW.PrintMore Go.Proofs.Ytmpdilifoblnaaa.Base Go.Proofs.Ytmpdilifoblnaaa.Fix Go.Proofs.Ytmpdilifoblnaaa.Mem
set_option linter.unusedSimpArgs false
set_option linter.unusedVariables false
/-! rules that are not too great, and whether rules may be -/
theorem rd51 (L : List S51) (i : Nat) (h : i < L.length) : rd_T51 L (i : Int) = L[i] := by
  unfold rd_T51
  rw [Int.toNat_natCast, List.getD_eq_getElem?_getD, List.getElem?_eq_getElem h]; rfl
theorem rd59 (L : List S59) (i : Nat) (h : i < L.length) : rd_T59 L (i : Int) = L[i] := by
  unfold rd_T59
  rw [Int.toNat_natCast, List.getD_eq_getElem?_getD, List.getElem?_eq_getElem h]; rfl
theorem w1 (i : Nat) (h : i < 1000000000) : wrap64 ((i : Int) + 1) = ((i + 1 : Nat) : Int) := by rw [w64 (by omega) (by omega)]; omega
theorem mn_nat (a b : Nat) : mn (a : Int) (b : Int) = ((min a b : Nat) : Int) := by unfold mn; split <;> omega
def cut8 (p : S51) : S51 := ⟨p.f0, p.f1.take 8⟩
theorem few_l0 (P : Nat) (hP : P ≤ 1000) (t l : Int) (o o' : List Int) (L : List S51) (d : Nat) : ∀ (k i : Nat) (acc : List S51), i + d = min P L.length → d < k → acc = (L.take i).map cut8 →
    gramaryeref09_Few.l0 k (P : Int) (i : Int) t l o L t l o' acc = some (t, l, o', (L.take P).map cut8) := by
  induction d with
  | zero =>
    intro k i acc h1 h2 h3
    obtain ⟨k, rfl⟩ : ∃ m, k = m + 1 := ⟨k - 1, by omega⟩
    have e : L.take i = L.take P := by
      rcases Nat.le_total P L.length with h | h
      · rw [show i = P by omega]
      · rw [List.take_of_length_le (by omega), List.take_of_length_le (by omega)]
    rw [gramaryeref09_Few.l0]
    by_cases hi : (i : Int) < (L.length : Int)
    · rw [if_pos hi, if_neg (by omega), h3, e]
    · rw [if_neg hi, h3, e]
  | succ d ih =>
    intro k i acc h1 h2 h3
    obtain ⟨k, rfl⟩ : ∃ m, k = m + 1 := ⟨k - 1, by omega⟩
    have hi : i < L.length := by omega
    have hal : acc.length = i := by rw [h3, List.length_map, List.length_take]; omega
    have hm : mn ((L[i].f1.length : Nat) : Int) 8 = ((min L[i].f1.length 8 : Nat) : Int) := mn_nat _ 8
    have ht : L[i].f1.take (min L[i].f1.length 8) = L[i].f1.take 8 := by
      rcases Nat.le_total L[i].f1.length 8 with h | h
      · rw [Nat.min_eq_left h, List.take_of_length_le (Nat.le_refl _), List.take_of_length_le h]
      · rw [Nat.min_eq_right h]
    rw [gramaryeref09_Few.l0, if_pos (by omega), if_pos (by omega), if_pos (by omega), rd51 L i hi]
    simp only [Option.bind_some]
    rw [hm, if_pos (by omega), if_pos (by omega)]
    simp only [Option.bind_some, Int.toNat_natCast, List.length_nil, List.nil_append]
    have hl8 : (L[i].f1.take (min L[i].f1.length 8)).length ≤ 8 := by rw [List.length_take]; omega
    rw [if_pos (by omega), if_pos (by omega), w1 i (by omega), ht]
    refine ih k (i + 1) _ (by omega) (by omega) ?_
    rw [List.take_succ_eq_append_getElem hi, List.map_append, h3]
    rfl
theorem ints_is (l : List Int) (h : l.length ≤ 1000000) : gramaryebase_Ints.f l = some l := by
  unfold gramaryebase_Ints.f
  simp only [Option.bind_some, List.nil_append]
  rw [if_pos (by simp only [List.length_nil]; omega)]
theorem few_is (N P : Nat) (hN : N ≤ 1000) (hP : P ≤ 1000) (t l : Int) (o : List Int) (L : List S51) (k : Nat) (hk : P < k) :
    gramaryeref09_Few.f k t l o L (N : Int) (P : Int) = some (t, l, o.take N, (L.take P).map cut8) := by
  unfold gramaryeref09_Few.f
  rw [mn_nat, if_pos (by omega), if_pos (by omega)]
  simp only [Int.toNat_natCast]
  have ht : o.take (min o.length N) = o.take N := by
    rcases Nat.le_total o.length N with h | h
    · rw [Nat.min_eq_left h, List.take_of_length_le (Nat.le_refl _), List.take_of_length_le h]
    · rw [Nat.min_eq_right h]
  rw [ht, ints_is _ (by rw [List.length_take]; omega)]
  simp only [Option.bind_some]
  exact few_l0 P hP t l o (o.take N) L (min P L.length) k 0 [] (by omega) (by omega) rfl
theorem cut8_cut8 (p : S51) : cut8 (cut8 p) = cut8 p := by unfold cut8; simp only [List.take_take, Nat.min_self]
theorem few_again (P : Nat) (L : List S51) : (((L.take P).map cut8).take P).map cut8 = (L.take P).map cut8 := by
  rw [List.take_of_length_le (by simp; omega), List.map_map]
  congr 1
  funext p
  exact cut8_cut8 p
/-- Rules that were cut. -/
structure Small (N P : Nat) (o : List Int) (L : List S51) : Prop where
  o : o.length ≤ N
  l : L.length ≤ P
  r : ∀ p ∈ L, p.f1.length ≤ 8
theorem few_small (N P : Nat) (o : List Int) (L : List S51) : Small N P (o.take N) ((L.take P).map cut8) :=
  ⟨by rw [List.length_take]; omega, by simp; omega, fun p hp => by
    obtain ⟨q, _, rfl⟩ := List.mem_map.1 hp
    unfold cut8; simp; omega⟩

theorem may_l2 (t l : Int) (o : List Int) (L : List S51) (pos : Int) (x0 : Int) (r : List S59) (hr : r.length ≤ 1000) (d : Nat) : ∀ (k i : Nat), i + d = r.length →
    gramaryeref09_May.l2 (k + d + 1) pos (i : Int) t l o L x0 r = if (r.drop i).any (fun s => !bnf_symB t o.length s) = true then some 4 else gramaryeref09_May.l1 k (wrap64 (pos + 1)) t l o L := by
  induction d with
  | zero =>
    intro k i h1
    rw [gramaryeref09_May.l2, if_neg (by omega), List.drop_of_length_le (by omega)]
    rfl
  | succ d ih =>
    intro k i h1
    have hi : i < r.length := by omega
    have hs := rd59 r i hi
    have ih' := ih k (i + 1) (by omega)
    rw [show k + (d + 1) + 1 = (k + d + 1) + 1 by omega, gramaryeref09_May.l2, if_pos (by omega), if_pos (by omega), hs, w1 i (by omega), ih', List.drop_eq_getElem_cons hi, List.any_cons]
    generalize (List.drop (i + 1) r).any (fun s => !bnf_symB t o.length s) = q
    obtain ⟨tok, x⟩ := r[i]
    unfold bnf_symB
    cases tok with
    | true =>
      simp only [if_true]
      by_cases h1 : x < 1
      · rw [if_pos h1, decide_eq_false (by omega)]; simp
      · rw [if_neg h1]
        by_cases h2 : x > t
        · rw [if_pos h2, decide_eq_false (by omega)]; simp
        · rw [if_neg h2, decide_eq_true (by omega)]; simp
    | false =>
      simp only [Bool.false_eq_true, if_false]
      by_cases h1 : x < 0
      · rw [if_pos h1, decide_eq_false (by omega)]; simp
      · rw [if_neg h1]
        by_cases h2 : x ≥ (o.length : Int)
        · rw [if_pos h2, decide_eq_false (by omega)]; simp
        · rw [if_neg h2, decide_eq_true (by omega)]; simp
theorem may_l1 (t l : Int) (o : List Int) (L : List S51) (hL : L.length ≤ 1000) (hr : ∀ p ∈ L, p.f1.length ≤ 8) (d : Nat) : ∀ (k i : Nat), i + d = L.length → 12 * d < k →
    gramaryeref09_May.l1 k (i : Int) t l o L = some (if (L.drop i).any (fun p => !bnf_prodB t o.length p) = true then 4 else 0) := by
  induction d with
  | zero =>
    intro k i h1 h2
    obtain ⟨k, rfl⟩ : ∃ m, k = m + 1 := ⟨k - 1, by omega⟩
    rw [gramaryeref09_May.l1, if_neg (by omega), List.drop_of_length_le (by omega)]
    rfl
  | succ d ih =>
    intro k i h1 h2
    have hi : i < L.length := by omega
    have hp8 := hr L[i] (List.getElem_mem hi)
    obtain ⟨k, rfl⟩ : ∃ m, k = m + L[i].f1.length + 1 + 2 := ⟨k - (L[i].f1.length + 3), by omega⟩
    rw [gramaryeref09_May.l1, if_pos (by omega), if_pos (by omega), rd51 L i hi, List.drop_eq_getElem_cons hi, List.any_cons]
    have hl2 := may_l2 t l o L (i : Int) L[i].f0 L[i].f1 (by omega) L[i].f1.length k 0 (by omega)
    rw [w1 i (by omega), ih k (i + 1) (by omega) (by omega), List.drop_zero, show ((0 : Nat) : Int) = 0 from rfl] at hl2
    by_cases h0 : L[i].f0 < 0
    · have e : bnf_prodB t o.length L[i] = false := by unfold bnf_prodB; rw [decide_eq_false (by omega)]; rfl
      rw [if_pos h0, gramaryeref09_May.j4, if_pos rfl, e]; rfl
    · rw [if_neg h0, gramaryeref09_May.j4]
      by_cases h3 : L[i].f0 ≥ (o.length : Int)
      · have e : bnf_prodB t o.length L[i] = false := by unfold bnf_prodB; rw [decide_eq_false (show ¬ L[i].f0 < (o.length : Int) by omega)]; simp
        rw [if_pos (decide_eq_true h3), e]; rfl
      · have e : bnf_prodB t o.length L[i] = !(L[i].f1.any (fun s => !bnf_symB t o.length s)) := by
          unfold bnf_prodB
          rw [decide_eq_true (show 0 ≤ L[i].f0 by omega), decide_eq_true (show L[i].f0 < (o.length : Int) by omega), Bool.true_and, Bool.true_and]
        rw [if_neg (by simpa using h3), hl2, e]
        cases hq : L[i].f1.any (fun s => !bnf_symB t o.length s)
        · rfl
        · rfl
theorem may_l0 (t l : Int) (o : List Int) (L : List S51) (hL : L.length ≤ 1000) (hr : ∀ p ∈ L, p.f1.length ≤ 8) (d : Nat) : ∀ (k i : Nat), i + d = L.length → d + 12 * L.length + 3 < k →
    gramaryeref09_May.l0 k (i : Int) t l o L = some (if ¬ (1 ≤ l ∧ l ≤ 4) then 11 else if L.any (fun p => !bnf_prodB t o.length p) = true then 4 else 0) := by
  induction d with
  | zero =>
    intro k i h1 h2
    obtain ⟨k, rfl⟩ : ∃ m, k = m + 2 := ⟨k - 2, by omega⟩
    have hl1 := may_l1 t l o L hL hr L.length k 0 (by omega) (by omega)
    rw [List.drop_zero, show ((0 : Nat) : Int) = 0 from rfl] at hl1
    rw [gramaryeref09_May.l0, if_neg (by omega)]
    by_cases h : l < 1
    · rw [if_pos h, gramaryeref09_May.j2, if_pos rfl, if_pos (by omega)]
    · rw [if_neg h, gramaryeref09_May.j2]
      by_cases h4 : l > 4
      · rw [if_pos (decide_eq_true h4), if_pos (by omega)]
      · rw [if_neg (by simpa using h4), hl1, if_neg (show ¬ ¬ (1 ≤ l ∧ l ≤ 4) by omega)]
  | succ d ih =>
    intro k i h1 h2
    obtain ⟨k, rfl⟩ : ∃ m, k = m + 1 := ⟨k - 1, by omega⟩
    have hi : i < L.length := by omega
    have hp8 := hr L[i] (List.getElem_mem hi)
    rw [gramaryeref09_May.l0, if_pos (by omega), if_pos (by omega), rd51 L i hi, if_neg (by omega), w1 i (by omega)]
    exact ih k (i + 1) (by omega) (by omega)
theorem may_is {N P : Nat} (hN : N ≤ 400) (hP : P ≤ 1000) (t l : Int) (o : List Int) (L : List S51) (h : Small N P o L) (k : Nat) (hk : 20000 ≤ k) : gramaryeref09_May.f k t l o L = some (bnf_mayB t l o L) := by
  have hl := h.l
  have ho := h.o
  obtain ⟨k, rfl⟩ : ∃ m, k = m + 1 := ⟨k - 1, by omega⟩
  have h0 := may_l0 t l o L (by omega) h.r L.length k 0 (by omega) (by omega)
  rw [show ((0 : Nat) : Int) = 0 from rfl] at h0
  have hlong : ¬ (L.any bnf_longB = true) := by
    intro e
    obtain ⟨p, hp, hq⟩ := List.any_eq_true.1 e
    have := h.r p hp
    unfold bnf_longB at hq
    simp at hq
    omega
  unfold gramaryeref09_May.f bnf_mayB
  by_cases a1 : t < 1
  · rw [if_pos a1, gramaryeref09_May.j0, if_pos rfl, if_pos (.inl (by omega))]
  rw [if_neg a1]
  by_cases a2 : t > 60
  · rw [if_pos a2, gramaryeref09_May.j0, if_pos rfl, if_pos (.inl (by omega))]
  rw [if_neg a2]
  by_cases a3 : (o.length : Int) < 1
  · rw [if_pos a3, gramaryeref09_May.j0, if_pos rfl, if_pos (.inr (.inl (by omega)))]
  rw [if_neg a3, if_neg (by omega)]
  by_cases a4 : (L.length : Int) < 1
  · rw [if_pos a4, gramaryeref09_May.j0, if_pos rfl, if_pos (.inr (.inr (.inl (by omega))))]
  have hno : ¬ (¬ (1 ≤ t ∧ t ≤ 60) ∨ ¬ (1 ≤ o.length ∧ o.length ≤ 500) ∨ ¬ (1 ≤ L.length ∧ L.length ≤ 2000) ∨ L.any bnf_longB = true) := by
    rintro (h | h | h | h)
    · omega
    · omega
    · omega
    · exact hlong h
  rw [if_neg a4, gramaryeref09_May.j0, if_neg (by simp; omega), h0, if_neg hno]
/-! the state of least words, as natural numbers: 1000001 is none -/
def keyI (x : Int) : Nat := if x < 0 then 1000001 else x.toNat
def stI (v : List Int) : Nat → Nat := fun i => keyI (v.getD i (-1))
def sumU (u : Nat → Nat) : List S59 → Option Nat
  | [] => some 0
  | s :: l => if s.f0 = true then (sumU u l).map (1 + ·) else if 1000001 ≤ u s.f1.toNat then none else (sumU u l).map (u s.f1.toNat + ·)
def valU (l : List S59) (u : Nat → Nat) : Nat := match sumU u l with
  | none => 1000001
  | some n => min n 1000000
def psU (L : List S51) : List Pr := L.map fun p => (p.f0.toNat, valU p.f1)
theorem psU_length (L : List S51) : (psU L).length = L.length := by simp [psU]
theorem psU_get (L : List S51) (i : Nat) (h : i < L.length) (h' : i < (psU L).length) : (psU L)[i] = (L[i].f0.toNat, valU L[i].f1) := by simp [psU]
theorem keyI_le {x : Int} (h : x ≤ 1000000) : keyI x ≤ 1000001 := by unfold keyI; split <;> omega
theorem keyI_inj {x y : Int} (hx : -1 ≤ x ∧ x ≤ 1000000) (hy : -1 ≤ y ∧ y ≤ 1000000) (h : keyI x = keyI y) : x = y := by
  unfold keyI at h
  split at h <;> split at h <;> omega
theorem keyI_lt {a x : Int} (ha : -1 ≤ a ∧ a ≤ 1000000) (hx : -1 ≤ x ∧ x ≤ 1000000) : keyI a < keyI x ↔ ¬ (a < 0) ∧ ¬ (0 ≤ x ∧ x ≤ a) := by
  unfold keyI
  split <;> split <;> omega
theorem getD_rd (v : List Int) (x : Int) (h0 : 0 ≤ x) (h1 : x < (v.length : Int)) : v.getD x.toNat (-1) = rd v x := by
  unfold rd
  rw [List.getD_eq_getElem?_getD, List.getD_eq_getElem?_getD, List.getElem?_eq_getElem (by omega)]
  rfl
theorem sum_is {v : List Int} (hv : LOk v) : ∀ l : List S59, (∀ s ∈ l, SymOk v.length s) → sumU (stI v) l = (rowSum v l).map Int.toNat
  | [], _ => rfl
  | s :: l, hs => by
    have ih := sum_is hv l (fun q hq => hs q (List.mem_cons_of_mem _ hq))
    have hrg := fun n => rowSum_range hv l n (fun q hq => hs q (List.mem_cons_of_mem _ hq))
    unfold sumU rowSum
    by_cases ht : s.f0 = true
    · rw [if_pos ht, if_pos ht, ih]
      cases h : rowSum v l with
      | none => rfl
      | some n => have := hrg n h; simp only [Option.map_some]; congr 1; omega
    · have hk := hs s List.mem_cons_self (by simpa using ht)
      have hx := hv _ (rd_mem v s.f1 hk.1 hk.2)
      have hst : stI v s.f1.toNat = keyI (rd v s.f1) := by unfold stI; rw [getD_rd v _ hk.1 hk.2]
      rw [if_neg ht, if_neg ht, hst]
      unfold keyI
      by_cases hn : rd v s.f1 < 0
      · rw [if_pos hn, if_pos hn, if_pos (Nat.le_refl _)]; rfl
      · rw [if_neg hn, if_neg hn, if_neg (by omega), ih]
        cases h : rowSum v l with
        | none => rfl
        | some n => have := hrg n h; simp only [Option.map_some]; congr 1; omega
theorem val_is {v : List Int} (hv : LOk v) (l : List S59) (hs : ∀ s ∈ l, SymOk v.length s) : valU l (stI v) = keyI (rowVal v l) := by
  unfold valU rowVal
  rw [sum_is hv l hs]
  cases h : rowSum v l with
  | none => rfl
  | some n =>
    have := rowSum_range hv l n hs h
    show min n.toNat 1000000 = keyI (mn n 1000000)
    unfold keyI mn
    split <;> split <;> omega
theorem sum_mono {u u' : Nat → Nat} (h : ∀ i, u i ≤ u' i) : ∀ l : List S59, (∀ n', sumU u' l = some n' → ∃ n, sumU u l = some n ∧ n ≤ n')
  | [], n', e => ⟨0, rfl, by simp [sumU] at e; omega⟩
  | s :: l, n', e => by
    have ih := sum_mono h l
    unfold sumU at e ⊢
    by_cases ht : s.f0 = true
    · rw [if_pos ht] at e ⊢
      obtain ⟨m, h1, h2⟩ := Option.map_eq_some_iff.1 e
      obtain ⟨n, h3, h4⟩ := ih m h1
      exact ⟨1 + n, by rw [h3]; rfl, by omega⟩
    · rw [if_neg ht] at e ⊢
      have hu := h s.f1.toNat
      by_cases hn : 1000001 ≤ u' s.f1.toNat
      · rw [if_pos hn] at e; exact absurd e (by simp)
      · rw [if_neg hn] at e
        rw [if_neg (by omega)]
        obtain ⟨m, h1, h2⟩ := Option.map_eq_some_iff.1 e
        obtain ⟨n, h3, h4⟩ := ih m h1
        exact ⟨u s.f1.toNat + n, by rw [h3]; rfl, by omega⟩
theorem val_mono (l : List S59) : Mono1 (valU l) := by
  intro u u' h
  unfold valU
  cases e' : sumU u' l with
  | none =>
    show _ ≤ 1000001
    cases sumU u l with
    | none => exact Nat.le_refl _
    | some n => show min n 1000000 ≤ 1000001; omega
  | some n' =>
    obtain ⟨n, e, hn⟩ := sum_mono h l n' e'
    rw [e]
    show min n 1000000 ≤ min n' 1000000
    omega
theorem sum_upd (u : Nat → Nat) (x y : Nat) : ∀ l : List S59, (∀ s ∈ l, s.f0 = false → s.f1.toNat ≠ x) → sumU (upd u x y) l = sumU u l
  | [], _ => rfl
  | s :: l, h => by
    have ih := sum_upd u x y l (fun q hq => h q (List.mem_cons_of_mem _ hq))
    unfold sumU
    by_cases ht : s.f0 = true
    · rw [if_pos ht, if_pos ht, ih]
    · have := h s List.mem_cons_self (by simpa using ht)
      have e : upd u x y s.f1.toNat = u s.f1.toNat := by unfold upd; rw [if_neg this]
      rw [if_neg ht, if_neg ht, e, ih]
/-! whose productions a nonterminal stands in -/
theorem mem_occS {i n m : Int} {l : List S59} : (n, m) ∈ occS i l ↔ m = i ∧ ∃ s ∈ l, s.f0 = false ∧ s.f1 = n := by
  unfold occS
  rw [List.mem_map]
  constructor
  · rintro ⟨s, hs, e⟩
    rw [List.mem_filter] at hs
    simp only [Prod.mk.injEq] at e
    exact ⟨e.2.symm, s, hs.1, by simpa using hs.2, e.1⟩
  · rintro ⟨rfl, s, hs, h0, rfl⟩
    exact ⟨s, List.mem_filter.2 ⟨hs, by simp [h0]⟩, rfl⟩
theorem mem_occ {n m : Int} : ∀ (L : List S51) (i : Int), (n, m) ∈ occ i L ↔ ∃ j : Nat, ∃ h : j < L.length, m = i + j ∧ ∃ s ∈ (L[j]).f1, s.f0 = false ∧ s.f1 = n
  | [], i => by simp [occ]
  | p :: ps, i => by
    simp only [occ, List.mem_append, mem_occS, mem_occ ps (i + 1)]
    constructor
    · rintro (⟨rfl, h⟩ | ⟨j, hj, rfl, h⟩)
      · exact ⟨0, by simp, by omega, h⟩
      · exact ⟨j + 1, by simp; omega, by omega, h⟩
    · rintro ⟨j, hj, rfl, h⟩
      cases j with
      | zero => exact .inl ⟨by omega, h⟩
      | succ j => exact .inr ⟨j, by simp at hj; omega, by omega, h⟩
theorem mem_whoOf {L : List S51} {n m : Int} : m ∈ whoOf (occ 0 L) n ↔ ∃ j : Nat, ∃ h : j < L.length, m = (j : Int) ∧ ∃ s ∈ (L[j]).f1, s.f0 = false ∧ s.f1 = n := by
  unfold whoOf
  rw [List.mem_map]
  constructor
  · rintro ⟨⟨a, b⟩, h, rfl⟩
    rw [List.mem_filter] at h
    have e : a = n := by simpa using h.2
    subst e
    obtain ⟨j, hj, e, hs⟩ := (mem_occ L 0).1 h.1
    exact ⟨j, hj, by simpa using e, hs⟩
  · rintro ⟨j, hj, rfl, hs⟩
    exact ⟨(n, (j : Int)), List.mem_filter.2 ⟨(mem_occ L 0).2 ⟨j, hj, by omega, hs⟩, by simp⟩, rfl⟩
theorem whoOf_len (o : List (Int × Int)) (n : Int) : (whoOf o n).length ≤ o.length := by
  unfold whoOf
  rw [List.length_map]
  exact List.length_filter_le _ _
/-- Rules of which each symbol, and each left side, is one of n. -/
def InN (n : Nat) (L : List S51) : Prop := ∀ p ∈ L, 0 ≤ p.f0 ∧ p.f0 < (n : Int) ∧ ∀ s ∈ p.f1, SymOk n s
theorem may_inN {t l : Int} {o : List Int} {L : List S51} (h : bnf_mayB t l o L = 0) : InN o.length L := fun p hp =>
  ⟨((bnf_may_ok h).2.2.2 p hp).2.1, ((bnf_may_ok h).2.2.2 p hp).2.2.1, ((bnf_may_ok h).2.2.2 p hp).2.2.2⟩
theorem stI_set {v : List Int} {x : Int} {y : Int} (h0 : 0 ≤ x) (h1 : x < (v.length : Int)) : stI (v.set x.toNat y) = upd (stI v) x.toNat (keyI y) := by
  funext j
  unfold stI upd
  rw [List.getD_eq_getElem?_getD, List.getElem?_set]
  by_cases e : x.toNat = j
  · subst e
    rw [if_pos rfl, if_pos (by omega), if_pos rfl]; rfl
  · rw [if_neg e, if_neg (fun h => e h.symm), ← List.getD_eq_getElem?_getD]
def u0I : Nat → Nat := fun _ => 1000001
theorem least_ok {t l : Int} {o : List Int} {L : List S51} (hm : bnf_mayB t l o L = 0) (hs : Small 40 60 o L) :
    ∃ v, empty_Least.f t l o L = some (v, 0) ∧ (LOk v ∧ v.length = o.length) ∧ Above (psU L) u0I (stI v) ∧ Stable (psU L) (stI v) := by
  have hin := may_inN hm
  have hocc : (occ 0 L).length ≤ 500 * L.length := occ_len L 0 (fun p hp => by have := hs.r p hp; omega)
  have hl := hs.l
  have ho := hs.o
  have key : ∃ r, leastG (occ 0 L) L (L.length + o.length * 1000002 * (occ 0 L).length + 1) (List.replicate o.length (-1)) (upTo L.length) = some r ∧ (LOk r ∧ r.length = o.length) ∧ Above (psU L) u0I (stI r) ∧ Stable (psU L) (stI r) := by
    refine work_ends (leastG (occ 0 L) L) stI (fun v => LOk v ∧ v.length = o.length) (psU L) (fun x => whoOf (occ 0 L) (x : Int)) o.length (occ 0 L).length 17592186044416 u0I ?_ ?_ ?_ ?_ ?_ ?_ ?_ _ _ _ ?_ ?_ ?_ ?_ ?_ ?_
    · intro p hp
      obtain ⟨q, _, rfl⟩ := List.mem_map.1 hp
      exact val_mono q.f1
    · intro p hp
      obtain ⟨q, hq, rfl⟩ := List.mem_map.1 hp
      have := hin q hq
      show q.f0.toNat < o.length
      omega
    · intro x
      refine ⟨whoOf_len _ _, fun j hj => ?_⟩
      obtain ⟨j, hj, rfl, _⟩ := mem_whoOf.1 hj
      rw [psU_length]
      omega
    · intro j hj u x y hno
      have hj' : j < L.length := by rwa [psU_length] at hj
      rw [psU_get L j hj' hj]
      show valU _ _ = valU _ _
      unfold valU
      rw [sum_upd u x y L[j].f1 (fun s hs h0 e => hno (mem_whoOf.2 ⟨j, hj', rfl, s, hs, h0, by
        have := (hin _ (List.getElem_mem hj')).2.2 s hs h0
        omega⟩))]
    · intro k s; rfl
    · intro k v i hi rest hv himp
      have hi' : i < L.length := by rwa [psU_length] at hi
      rw [psU_get L i hi' hi] at himp
      obtain ⟨a0, a1, a2⟩ := hin _ (List.getElem_mem hi')
      have hsy : ∀ s ∈ L[i].f1, SymOk v.length s := by rw [hv.2]; exact a2
      have hvl : L[i].f0 < (v.length : Int) := by rw [hv.2]; exact a1
      simp only at himp
      rw [val_is hv.1 _ hsy, show stI v L[i].f0.toNat = keyI (rd v L[i].f0) from by unfold stI; rw [getD_rd v _ a0 hvl], keyI_lt (rowVal_range hv.1 _ hsy) (hv.1 _ (rd_mem v _ a0 hvl))] at himp
      rw [leastG, rd51 L i hi', if_pos ⟨by omega, by omega, a0, hvl⟩]
      by_cases h1 : rowVal v L[i].f1 < 0
      · rw [if_pos h1]
      · rw [if_neg h1, if_pos (by
          rcases Classical.em (0 ≤ rd v L[i].f0 ∧ rd v L[i].f0 ≤ rowVal v L[i].f1) with h | h
          · exact h
          · exact absurd ⟨h1, h⟩ himp)]
    · intro k v i hi rest hv himp hroom
      have hi' : i < L.length := by rwa [psU_length] at hi
      rw [psU_get L i hi' hi] at himp hroom ⊢
      obtain ⟨a0, a1, a2⟩ := hin _ (List.getElem_mem hi')
      have hsy : ∀ s ∈ L[i].f1, SymOk v.length s := by rw [hv.2]; exact a2
      have hvl : L[i].f0 < (v.length : Int) := by rw [hv.2]; exact a1
      have hrr := rowVal_range hv.1 _ hsy
      simp only at himp hroom ⊢
      rw [val_is hv.1 _ hsy, show stI v L[i].f0.toNat = keyI (rd v L[i].f0) from by unfold stI; rw [getD_rd v _ a0 hvl], keyI_lt hrr (hv.1 _ (rd_mem v _ a0 hvl))] at himp
      rw [show ((L[i].f0.toNat : Nat) : Int) = L[i].f0 by omega] at hroom ⊢
      refine ⟨v.set L[i].f0.toNat (rowVal v L[i].f1), ⟨hv.1.set _ hrr, by rw [List.length_set]; exact hv.2⟩, ?_, ?_⟩
      · rw [stI_set a0 hvl, val_is hv.1 _ hsy]
      · rw [leastG, rd51 L i hi', if_pos ⟨by omega, by omega, a0, hvl⟩, if_neg himp.1, if_neg himp.2, if_pos hroom]
    · exact ⟨fun x hx => by rw [List.eq_of_mem_replicate hx]; decide, by simp⟩
    · have e : stI (List.replicate o.length (-1)) = u0I := by
        funext j
        unfold stI u0I
        rw [List.getD_eq_getElem?_getD, List.getElem?_replicate]
        split <;> rfl
      rw [e]; exact Above.init _ _
    · intro j hj
      unfold upTo at hj
      obtain ⟨i, hi, rfl⟩ := List.mem_map.1 hj
      rw [List.mem_range] at hi
      rw [psU_length]
      show 0 ≤ (i : Int) ∧ (i : Int) < _
      omega
    · intro j hj _
      rw [psU_length] at hj
      unfold upTo
      exact List.mem_map.2 ⟨j, List.mem_range.2 hj, rfl⟩
    · rw [upTo_length]
      have h1 := tot_le (u := stI (List.replicate o.length (-1))) (b := 1000001) (fun i => by
        unfold stI
        rw [List.getD_eq_getElem?_getD, List.getElem?_replicate]
        split <;> decide) o.length
      have h2 := Nat.mul_le_mul_right (occ 0 L).length h1
      have h3 := Nat.mul_le_mul_right (occ 0 L).length (Nat.mul_le_mul_left o.length (show 1000001 ≤ 1000002 by omega))
      omega
    · have h3 : o.length * 1000002 * (occ 0 L).length ≤ 40 * 1000002 * 30000 := Nat.mul_le_mul (Nat.mul_le_mul_right _ ho) (by omega)
      omega
  obtain ⟨r, h1, h2⟩ := key
  refine ⟨r, ?_, h2⟩
  unfold empty_Least.f
  rw [if_pos hm, h1]
  rfl
/-! what is marked: 0 is marked, 1 is not -/
def isOf (tok : Bool) (s : S59) (m : List Bool) : Bool := if s.f0 = true then tok else rdOf false m s.f1
theorem is_nothing : isNothing = isOf false := by
  funext s m
  unfold isNothing isOf
  cases s.f0 <;> simp
theorem is_ends : isEnds = isOf true := by
  funext s m
  unfold isEnds isOf
  cases s.f0 <;> simp
def stB (m : List Bool) : Nat → Nat := fun i => if m.getD i false = true then 0 else 1
def okU (tok : Bool) (u : Nat → Nat) (s : S59) : Bool := if s.f0 = true then tok else decide (u s.f1.toNat = 0)
def valB (tok : Bool) (l : List S59) (u : Nat → Nat) : Nat := if l.all (okU tok u) = true then 0 else 1
def psB (tok : Bool) (L : List S51) : List Pr := L.map fun p => (p.f0.toNat, valB tok p.f1)
theorem psB_length (tok : Bool) (L : List S51) : (psB tok L).length = L.length := by simp [psB]
theorem psB_get (tok : Bool) (L : List S51) (i : Nat) (h : i < L.length) (h' : i < (psB tok L).length) : (psB tok L)[i] = (L[i].f0.toNat, valB tok L[i].f1) := by simp [psB]
theorem getD_rdB (m : List Bool) (x : Int) : m.getD x.toNat false = rdOf false m x := rfl
theorem ok_is (tok : Bool) (m : List Bool) (s : S59) : okU tok (stB m) s = isOf tok s m := by
  unfold okU isOf stB
  rw [getD_rdB]
  by_cases h : s.f0 = true
  · rw [if_pos h, if_pos h]
  · rw [if_neg h, if_neg h]
    cases rdOf false m s.f1 <;> rfl
theorem valB_is (tok : Bool) (l : List S59) (m : List Bool) : valB tok l (stB m) = if l.any (fun s => !isOf tok s m) = true then 1 else 0 := by
  unfold valB
  have e : l.all (okU tok (stB m)) = !(l.any fun s => !isOf tok s m) := by
    rw [List.all_eq_not_any_not]
    congr 2
    funext s
    rw [ok_is]
  rw [e]
  cases l.any (fun s => !isOf tok s m) <;> rfl
theorem valB_mono (tok : Bool) (l : List S59) : Mono1 (valB tok l) := by
  intro u u' h
  unfold valB
  by_cases a : l.all (okU tok u') = true
  · rw [if_pos a, if_pos]
    · exact Nat.le_refl _
    rw [List.all_eq_true] at a ⊢
    intro s hs
    have := a s hs
    unfold okU at this ⊢
    by_cases ht : s.f0 = true
    · rw [if_pos ht] at this ⊢; exact this
    · rw [if_neg ht] at this ⊢
      have hu := h s.f1.toNat
      simp only [decide_eq_true_eq] at this ⊢
      omega
  · rw [if_neg a]
    split <;> omega
theorem allB_upd (tok : Bool) (u : Nat → Nat) (x y : Nat) (l : List S59) (h : ∀ s ∈ l, s.f0 = false → s.f1.toNat ≠ x) : l.all (okU tok (upd u x y)) = l.all (okU tok u) := by
  rw [Bool.eq_iff_iff, List.all_eq_true, List.all_eq_true]
  have e : ∀ s ∈ l, okU tok (upd u x y) s = okU tok u s := by
    intro s hs
    unfold okU
    by_cases ht : s.f0 = true
    · rw [if_pos ht, if_pos ht]
    · have := h s hs (by simpa using ht)
      rw [if_neg ht, if_neg ht, show upd u x y s.f1.toNat = u s.f1.toNat by unfold upd; rw [if_neg this]]
  exact ⟨fun a s hs => by rw [← e s hs]; exact a s hs, fun a s hs => by rw [e s hs]; exact a s hs⟩
theorem stB_set {m : List Bool} {x : Int} (h0 : 0 ≤ x) (h1 : x < (m.length : Int)) : stB (m.set x.toNat true) = upd (stB m) x.toNat 0 := by
  funext j
  have g : (m.set x.toNat true).getD j false = if x.toNat = j then true else m.getD j false := by
    rw [List.getD_eq_getElem?_getD, List.getD_eq_getElem?_getD, List.getElem?_set]
    by_cases e : x.toNat = j
    · subst e
      rw [if_pos rfl, if_pos rfl, if_pos (by omega)]; rfl
    · rw [if_neg e, if_neg e]
  show (if (m.set x.toNat true).getD j false = true then 0 else 1) = (if j = x.toNat then 0 else (if m.getD j false = true then 0 else 1))
  rw [g]
  by_cases e : x.toNat = j
  · rw [if_pos e, if_pos rfl, if_pos e.symm]
  · rw [if_neg e, if_neg (show ¬ j = x.toNat from fun h => e h.symm)]
def u0B : Nat → Nat := fun _ => 1
theorem stB_init (n : Nat) : stB (List.replicate n false) = u0B := by
  funext j
  unfold stB u0B
  rw [List.getD_eq_getElem?_getD, List.getElem?_replicate]
  split <;> rfl
theorem impB (tok : Bool) (l : List S59) (m : List Bool) (x : Int) : valB tok l (stB m) < stB m x.toNat ↔ rdOf false m x = false ∧ l.any (fun s => !isOf tok s m) = false := by
  rw [valB_is]
  unfold stB
  rw [getD_rdB]
  cases l.any (fun s => !isOf tok s m) <;> cases rdOf false m x <;> simp
theorem marks_ok (tok : Bool) {t l : Int} {o : List Int} {L : List S51} (hm : bnf_mayB t l o L = 0) (hs : Small 40 60 o L) :
    ∃ m, empty_marksF (isOf tok) t l o L = some (m, 0) ∧ m.length = o.length ∧ Above (psB tok L) u0B (stB m) ∧ Stable (psB tok L) (stB m) := by
  have hin := may_inN hm
  have hocc : (occ 0 L).length ≤ 500 * L.length := occ_len L 0 (fun p hp => by have := hs.r p hp; omega)
  have hl := hs.l
  have ho := hs.o
  have key : ∃ r, growG (isOf tok) (occ 0 L) L (L.length + o.length * (occ 0 L).length + 1) (List.replicate o.length false) (upTo L.length) = some r ∧ r.length = o.length ∧ Above (psB tok L) u0B (stB r) ∧ Stable (psB tok L) (stB r) := by
    refine work_ends (growG (isOf tok) (occ 0 L) L) stB (fun m => m.length = o.length) (psB tok L) (fun x => whoOf (occ 0 L) (x : Int)) o.length (occ 0 L).length 17592186044416 u0B ?_ ?_ ?_ ?_ ?_ ?_ ?_ _ _ _ ?_ ?_ ?_ ?_ ?_ ?_
    · intro p hp
      obtain ⟨q, _, rfl⟩ := List.mem_map.1 hp
      exact valB_mono tok q.f1
    · intro p hp
      obtain ⟨q, hq, rfl⟩ := List.mem_map.1 hp
      have := hin q hq
      show q.f0.toNat < o.length
      omega
    · intro x
      refine ⟨whoOf_len _ _, fun j hj => ?_⟩
      obtain ⟨j, hj, rfl, _⟩ := mem_whoOf.1 hj
      rw [psB_length]
      omega
    · intro j hj u x y hno
      have hj' : j < L.length := by rwa [psB_length] at hj
      rw [psB_get tok L j hj' hj]
      show valB tok _ _ = valB tok _ _
      unfold valB
      rw [allB_upd tok u x y L[j].f1 (fun s hs h0 e => hno (mem_whoOf.2 ⟨j, hj', rfl, s, hs, h0, by
        have := (hin _ (List.getElem_mem hj')).2.2 s hs h0
        omega⟩))]
    · intro k s; rfl
    · intro k m i hi rest hv himp
      have hi' : i < L.length := by rwa [psB_length] at hi
      rw [psB_get tok L i hi' hi] at himp
      obtain ⟨a0, a1, a2⟩ := hin _ (List.getElem_mem hi')
      simp only at himp
      rw [impB] at himp
      rw [growG, rd51 L i hi', if_pos ⟨by omega, by omega, a0, by omega⟩]
      cases h1 : rdOf false m L[i].f0 with
      | true => rw [if_pos rfl]
      | false =>
        rw [if_neg (by decide)]
        cases h2 : L[i].f1.any (fun s => !isOf tok s m) with
        | true => rw [if_pos rfl]
        | false => exact absurd ⟨h1, h2⟩ himp
    · intro k m i hi rest hv himp hroom
      have hi' : i < L.length := by rwa [psB_length] at hi
      rw [psB_get tok L i hi' hi] at himp hroom ⊢
      obtain ⟨a0, a1, a2⟩ := hin _ (List.getElem_mem hi')
      simp only at himp hroom ⊢
      have himp' := himp
      rw [impB] at himp
      rw [show ((L[i].f0.toNat : Nat) : Int) = L[i].f0 by omega] at hroom ⊢
      refine ⟨m.set L[i].f0.toNat true, by rw [List.length_set]; exact hv, ?_, ?_⟩
      · rw [stB_set a0 (by omega), valB_is, himp.2]; rfl
      · rw [growG, rd51 L i hi', if_pos ⟨by omega, by omega, a0, by omega⟩, himp.1, himp.2, if_neg (by decide), if_neg (by decide), if_pos hroom]
    · simp
    · rw [stB_init]; exact Above.init _ _
    · intro j hj
      unfold upTo at hj
      obtain ⟨i, hi, rfl⟩ := List.mem_map.1 hj
      rw [List.mem_range] at hi
      rw [psB_length]
      show 0 ≤ (i : Int) ∧ (i : Int) < _
      omega
    · intro j hj _
      rw [psB_length] at hj
      unfold upTo
      exact List.mem_map.2 ⟨j, List.mem_range.2 hj, rfl⟩
    · rw [upTo_length, stB_init]
      have h1 := tot_le (u := u0B) (b := 1) (fun i => Nat.le_refl _) o.length
      have h2 := Nat.mul_le_mul_right (occ 0 L).length h1
      rw [Nat.mul_one] at h2
      omega
    · have h3 : o.length * (occ 0 L).length ≤ 40 * 30000 := Nat.mul_le_mul ho (by omega)
      omega
  obtain ⟨r, h1, h2⟩ := key
  refine ⟨r, ?_, h2⟩
  unfold empty_marksF
  rw [if_pos hm, h1]
  rfl
theorem stateB_eq {v v' : List Bool} (hl : v.length = v'.length) (e : ∀ i, stB v i = stB v' i) : v = v' := by
  apply List.ext_getElem hl
  intro i h1 h2
  have := e i
  unfold stB at this
  rw [List.getD_eq_getElem?_getD, List.getD_eq_getElem?_getD, List.getElem?_eq_getElem h1, List.getElem?_eq_getElem h2] at this
  simp only [Option.getD_some] at this
  cases h3 : v[i] <;> cases h4 : v'[i] <;> simp [h3, h4] at this ⊢
theorem leastG_more (who : List (Int × Int)) (L : List S51) : ∀ (k : Nat) (v l : List Int), LeO (leastG who L k v l) (leastG who L (k + 1) v l)
  | 0, _, _ => LeO.none _
  | k + 1, v, [] => LeO.refl _
  | k + 1, v, i :: rest => by
    have ih := leastG_more who L k
    unfold leastG
    exact LeO.ite (LeO.ite (ih _ _) (LeO.ite (ih _ _) (LeO.ite (ih _ _) (LeO.none _)))) (LeO.none _)
def sampleL : List S51 := [⟨0, [⟨true, 1⟩, ⟨false, 0⟩]⟩, ⟨0, []⟩]
theorem sample_is : gramaryelaw10_sample.f = some (1, 1, [-1], sampleL) := rfl
theorem least_sample : empty_Least.f 1 1 [-1] sampleL = some ([0], 0) := by
  have h1 : leastG (occ 0 sampleL) sampleL 10 [-1] (upTo 2) = some [0] := by decide +kernel
  have ho : (occ 0 sampleL).length = 1 := by decide +kernel
  have h2 := at_rounds (g := fun k => leastG (occ 0 sampleL) sampleL k [-1] (upTo 2)) (fun k => leastG_more _ _ k _ _) (k' := 2 + 1 * 1000002 * (occ 0 sampleL).length + 1) (by rw [ho]; omega) h1
  unfold empty_Least.f
  rw [if_pos (by decide +kernel)]
  show (leastG (occ 0 sampleL) sampleL (2 + 1 * 1000002 * (occ 0 sampleL).length + 1) [-1] (upTo 2)).map _ = _
  rw [show leastG (occ 0 sampleL) sampleL (2 + 1 * 1000002 * (occ 0 sampleL).length + 1) [-1] (upTo 2) = some [0] from h2]
  rfl
theorem nothing_sample : empty_Nothing.f 1 1 [-1] sampleL = some ([true], 0) := by decide +kernel
theorem works_true : gramaryelaw10_works.f 20 = some true := by
  unfold gramaryelaw10_works.f
  rw [sample_is]
  simp only [Option.bind_some]
  rw [nothing_sample, least_sample]
  decide +kernel
theorem works_is (k : Nat) (hk : 2000 ≤ k) : gramaryelaw10_works.f k = some true := at_rounds (g := fun k => gramaryelaw10_works.f k) (fun k => gramaryelaw10_works.mono k) (Nat.le_trans (by decide) hk) works_true
/-! the reference's marks, and rows -/
theorem row_ref (tok : Bool) (l : List S59) (m : List Bool) (hl : l.length ≤ 1000) (hs : ∀ s ∈ l, SymOk m.length s) (d : Nat) : ∀ (k i : Nat), i + d = l.length → d < k →
    gramaryeref10_row.l0 k l tok m (i : Int) = some (!((l.drop i).any fun s => !isOf tok s m)) := by
  induction d with
  | zero =>
    intro k i h1 h2
    obtain ⟨k, rfl⟩ : ∃ m, k = m + 1 := ⟨k - 1, by omega⟩
    rw [gramaryeref10_row.l0, if_neg (by omega), List.drop_of_length_le (by omega)]
    rfl
  | succ d ih =>
    intro k i h1 h2
    obtain ⟨k, rfl⟩ : ∃ m, k = m + 1 := ⟨k - 1, by omega⟩
    have hi : i < l.length := by omega
    have hk := hs _ (List.getElem_mem hi)
    rw [gramaryeref10_row.l0, if_pos (by omega), if_pos (by omega), rd59 l i hi, w1 i (by omega), ih k (i + 1) (by omega) (by omega), List.drop_eq_getElem_cons hi, List.any_cons]
    generalize (List.drop (i + 1) l).any (fun s => !isOf tok s m) = q
    generalize l[i] = s at hk
    unfold isOf
    by_cases ht : s.f0 = true
    · rw [if_pos ht, if_pos ht, if_pos ht]
      cases tok <;> simp
    · obtain ⟨h3, h4⟩ := hk (by simpa using ht)
      rw [if_neg ht, if_neg ht, if_neg ht, if_pos h3, if_pos h4]
      cases rdOf false m s.f1 <;> simp
section
variable (tok : Bool) (t l : Int) (o : List Int) (L : List S51)
theorem ev_mark {v r : List Bool} {more : Bool} {i : Nat} (hi : i < L.length) (hL : L.length ≤ 1000) (hr8 : L[i].f1.length ≤ 8) (h0 : 0 ≤ L[i].f0) (h1 : L[i].f0 < (v.length : Int)) (hs : ∀ s ∈ L[i].f1, SymOk v.length s)
    (h : Ev (fun k => if rdOf false v L[i].f0 = false ∧ L[i].f1.any (fun s => !isOf tok s v) = false then gramaryeref10_mark.l1 k tok (v.set L[i].f0.toNat true) true ((i + 1 : Nat) : Int) t l o L else gramaryeref10_mark.l1 k tok v more ((i + 1 : Nat) : Int) t l o L) r) :
    Ev (fun k => gramaryeref10_mark.l1 k tok v more (i : Int) t l o L) r := by
  obtain ⟨K, hK⟩ := h
  refine ⟨K + 1010, fun k hk => ?_⟩
  obtain ⟨k, rfl⟩ : ∃ m, k = m + 1 := ⟨k - 1, by omega⟩
  have e := hK k (by omega)
  have hrow := row_ref tok L[i].f1 v (by omega) hs L[i].f1.length k 0 (by omega) (by omega)
  rw [List.drop_zero, show ((0 : Nat) : Int) = 0 from rfl] at hrow
  show gramaryeref10_mark.l1 (k + 1) tok v more (i : Int) t l o L = some r
  simp only at e
  rw [gramaryeref10_mark.l1, if_pos (by omega), if_pos (by omega), rd51 L i hi, if_pos h0, if_pos h1, w1 i (by omega)]
  cases hb : rdOf false v L[i].f0 with
  | true =>
    rw [hb, if_neg (by rintro ⟨h, _⟩; cases h)] at e
    rw [if_pos rfl]; exact e
  | false =>
    rw [if_neg (by decide), show gramaryeref10_row.f k L[i].f1 tok v = _ from hrow]
    simp only [Option.bind_some]
    cases hq : L[i].f1.any (fun s => !isOf tok s v) with
    | true =>
      rw [hq, if_neg (by rintro ⟨_, h⟩; cases h)] at e
      rw [if_neg (by decide)]; exact e
    | false =>
      rw [hb, hq, if_pos ⟨rfl, rfl⟩] at e
      rw [if_pos (by decide)]; exact e
end
theorem ref_marks (tok : Bool) {t l : Int} {o : List Int} {L : List S51} (hm : bnf_mayB t l o L = 0) (hs : Small 40 60 o L) :
    ∃ v, Ev (fun k => gramaryeref10_mark.f k t l o L tok) v ∧ v.length = o.length ∧ Above (psB tok L) u0B (stB v) ∧ Stable (psB tok L) (stB v) := by
  have hin := may_inN hm
  have hl := hs.l
  have ho := hs.o
  have key : ∃ r, Ev (fun k => gramaryeref10_mark.l0 k tok (List.replicate o.length false) true t l o L) r ∧ r.length = o.length ∧ Above (psB tok L) u0B (stB r) ∧ Stable (psB tok L) (stB r) := by
    refine sweeps_end (fun k s b => gramaryeref10_mark.l0 k tok s b t l o L) (fun k s b i => gramaryeref10_mark.l1 k tok s b (i : Int) t l o L) stB (fun v => v.length = o.length) (psB tok L) o.length u0B ?_ ?_ ?_ ?_ ?_ ?_ ?_ _ _ ?_ ?_ (Nat.le_refl _)
    · intro p hp
      obtain ⟨q, _, rfl⟩ := List.mem_map.1 hp
      exact valB_mono tok q.f1
    · intro p hp
      obtain ⟨q, hq, rfl⟩ := List.mem_map.1 hp
      have := hin q hq
      show q.f0.toNat < o.length
      omega
    · intro s r h
      exact Ev.step (fun k => by rw [gramaryeref10_mark.l0, if_pos rfl]; rfl) h
    · intro s
      refine ⟨1, fun k hk => ?_⟩
      obtain ⟨k, rfl⟩ : ∃ m, k = m + 1 := ⟨k - 1, by omega⟩
      show gramaryeref10_mark.l0 (k + 1) tok s false t l o L = some s
      rw [gramaryeref10_mark.l0, if_neg (by decide)]
    · intro v more i hi r hv himp h
      have hi' : i < L.length := by rwa [psB_length] at hi
      rw [psB_get tok L i hi' hi] at himp
      obtain ⟨a0, a1, a2⟩ := hin _ (List.getElem_mem hi')
      simp only at himp
      rw [impB] at himp
      refine ev_mark tok t l o L hi' (by omega) (hs.r _ (List.getElem_mem hi')) a0 (by omega) (by rw [hv]; exact a2) ?_
      refine Ev.congr (fun k => ?_) h
      rw [if_neg himp]
    · intro v more i hi hv himp
      have hi' : i < L.length := by rwa [psB_length] at hi
      rw [psB_get tok L i hi' hi] at himp ⊢
      obtain ⟨a0, a1, a2⟩ := hin _ (List.getElem_mem hi')
      simp only at himp ⊢
      rw [impB] at himp
      refine ⟨v.set L[i].f0.toNat true, by rw [List.length_set]; exact hv, ?_, fun r h => ?_⟩
      · rw [stB_set a0 (by omega), valB_is, himp.2]; rfl
      · refine ev_mark tok t l o L hi' (by omega) (hs.r _ (List.getElem_mem hi')) a0 (by omega) (by rw [hv]; exact a2) ?_
        refine Ev.congr (fun k => ?_) h
        rw [if_pos himp]
    · intro s more r h
      rw [psB_length]
      exact Ev.step (fun k => by rw [gramaryeref10_mark.l1, if_neg (by omega)]) h
    · simp
    · rw [stB_init]; exact Above.init _ _
  obtain ⟨r, h1, h2⟩ := key
  refine ⟨r, Ev.congr (fun k => ?_) h1, h2⟩
  unfold gramaryeref10_mark.f
  rw [if_pos (by omega), if_pos (by omega), Int.toNat_natCast]
theorem row_law {t l : Int} {o : List Int} {L : List S51} (m : List Bool) (hmo : m.length = o.length) (ho : o.length ≤ 1000) (K : Nat) (hN : ∀ k, K ≤ k → gramaryeref10_Nothing.f k t l o L = some m) (q : List S59) (hq : q.length ≤ 10) :
    ∀ (d k i : Nat), i + d = q.length → K + d + 100 < k → (∀ j, (hj : j < q.length) → j < i → (q[j].f0 = false ∧ 0 ≤ q[j].f1 ∧ q[j].f1 < (o.length : Int))) →
    gramaryeref10_Row.l0 k q (i : Int) t l o L = some (!(q.any (rowBad m))) := by
  intro d
  induction d with
  | zero =>
    intro k i h1 h2 hall
    obtain ⟨k, rfl⟩ : ∃ m, k = m + 1 := ⟨k - 1, by omega⟩
    have hsy : ∀ s ∈ q, SymOk m.length s := fun s hs _ => by
      obtain ⟨j, hj, rfl⟩ := List.getElem_of_mem hs
      rw [hmo]
      exact (hall j hj (by omega)).2
    have hrow := row_ref false q m (by omega) hsy q.length k 0 (by omega) (by omega)
    rw [List.drop_zero, show ((0 : Nat) : Int) = 0 from rfl] at hrow
    rw [gramaryeref10_Row.l0, if_neg (by omega), hN k (by omega)]
    simp only [Option.bind_some]
    rw [show gramaryeref10_row.f k q false m = _ from hrow]
    simp only [Option.bind_some]
    congr 2
    rw [Bool.eq_iff_iff, List.any_eq_true, List.any_eq_true]
    have e : ∀ s ∈ q, (!isOf false s m) = rowBad m s := fun s hs => by
      obtain ⟨j, hj, rfl⟩ := List.getElem_of_mem hs
      obtain ⟨b0, b1, b2⟩ := hall j hj (by omega)
      unfold isOf rowBad
      rw [b0, decide_eq_false (show ¬ q[j].f1 < 0 by omega), decide_eq_false (show ¬ q[j].f1 ≥ (m.length : Int) by omega)]
      simp
    exact ⟨fun ⟨s, hs, h⟩ => ⟨s, hs, by rw [← e s hs]; exact h⟩, fun ⟨s, hs, h⟩ => ⟨s, hs, by rw [e s hs]; exact h⟩⟩
  | succ d ih =>
    intro k i h1 h2 hall
    obtain ⟨k, rfl⟩ : ∃ m, k = m + 1 := ⟨k - 1, by omega⟩
    have hi : i < q.length := by omega
    have bad : rowBad m q[i] = true → some false = some (!(q.any (rowBad m))) := fun h => by
      rw [List.any_eq_true.2 ⟨q[i], List.getElem_mem hi, h⟩]; rfl
    rw [gramaryeref10_Row.l0, if_pos (by omega), if_pos (by omega), rd59 q i hi]
    by_cases ht : q[i].f0 = true
    · rw [if_pos ht]
      exact bad (by unfold rowBad; rw [ht]; rfl)
    · rw [if_neg ht]
      by_cases h3 : q[i].f1 < 0
      · rw [if_pos h3]
        exact bad (by unfold rowBad; rw [decide_eq_true h3]; simp)
      · rw [if_neg h3]
        by_cases h4 : q[i].f1 ≥ (o.length : Int)
        · rw [if_pos h4]
          exact bad (by unfold rowBad; rw [decide_eq_true (show q[i].f1 ≥ (m.length : Int) by omega)]; simp)
        · rw [if_neg h4, w1 i (by omega)]
          refine ih k (i + 1) (by omega) (by omega) (fun j hj hji => ?_)
          by_cases e : j = i
          · subst e
            exact ⟨by simpa using ht, by omega, by omega⟩
          · exact hall j hj (by omega)
theorem same_bools (l : List Bool) (hl : l.length ≤ 1000) (d : Nat) : ∀ (k i : Nat), i + d = l.length → d < k → gramaryelaw10_same.l0 k l l (i : Int) = some true := by
  induction d with
  | zero =>
    intro k i h1 h2
    obtain ⟨k, rfl⟩ : ∃ m, k = m + 1 := ⟨k - 1, by omega⟩
    rw [gramaryelaw10_same.l0, if_neg (by omega)]
  | succ d ih =>
    intro k i h1 h2
    obtain ⟨k, rfl⟩ : ∃ m, k = m + 1 := ⟨k - 1, by omega⟩
    rw [gramaryelaw10_same.l0, if_pos (by omega), if_pos (by omega), if_pos (by omega), bne_self_eq_false, if_neg (by decide), w1 i (by omega)]
    exact ih k (i + 1) (by omega) (by omega)
theorem same_bself (l : List Bool) (hl : l.length ≤ 1000) (k : Nat) (hk : 2000 ≤ k) : gramaryelaw10_same.f k l l = some true := by
  unfold gramaryelaw10_same.f
  rw [if_pos rfl]
  exact same_bools l hl l.length k 0 (by omega) (by omega)
theorem EmptyTells : gramaryelaw10_EmptyTells.PureG := by
  intro t l o L q _ _ _ _ _
  have hs := few_small 40 60 o L
  have hfew : ∀ k, 20000 ≤ k → gramaryeref09_Few.f k t l o L 40 60 = some (t, l, o.take 40, (L.take 60).map cut8) := fun k hk => few_is 40 60 (by omega) (by omega) t l o L k (by omega)
  have hfew2 : ∀ k, 20000 ≤ k → gramaryeref09_Few.f k t l (o.take 40) ((L.take 60).map cut8) 40 60 = some (t, l, o.take 40, (L.take 60).map cut8) := fun k hk => by
    have := few_is 40 60 (by omega) (by omega) t l (o.take 40) ((L.take 60).map cut8) k (by omega)
    rwa [few_again, List.take_take, Nat.min_self] at this
  have hq : (q.take 10).length ≤ 10 := by rw [List.length_take]; omega
  generalize o.take 40 = o' at hs hfew hfew2
  generalize (L.take 60).map cut8 = L' at hs hfew hfew2
  have hmay := fun k (hk : 20000 ≤ k) => may_is (by omega) (by omega) t l o' L' hs k hk
  have ho := hs.o
  by_cases hm : bnf_mayB t l o' L' = 0
  · obtain ⟨x, hx, x2, xa, xs⟩ := marks_ok false hm hs
    obtain ⟨y, hy, y2, ya, ys⟩ := marks_ok true hm hs
    obtain ⟨x', ⟨K1, hx'⟩, x2', xa', xs'⟩ := ref_marks false hm hs
    obtain ⟨y', ⟨K2, hy'⟩, y2', ya', ys'⟩ := ref_marks true hm hs
    have ex : x = x' := stateB_eq (by rw [x2, x2']) (fun i => unique xa xs xa' xs' i)
    have ey : y = y' := stateB_eq (by rw [y2, y2']) (fun i => unique ya ys ya' ys' i)
    subst ex ey
    have hN : ∀ k, K1 ≤ k → gramaryeref10_Nothing.f k t l o' L' = some x := fun k hk => by
      unfold gramaryeref10_Nothing.f
      rw [show gramaryeref10_mark.f k t l o' L' false = some x from hx' k hk]; rfl
    have hE : ∀ k, K2 ≤ k → gramaryeref10_Ends.f k t l o' L' = some y := fun k hk => by
      unfold gramaryeref10_Ends.f
      rw [show gramaryeref10_mark.f k t l o' L' true = some y from hy' k hk]; rfl
    rw [← is_nothing] at hx
    rw [← is_ends] at hy
    obtain ⟨k, hk⟩ : ∃ k, k = K1 + K2 + 20000 := ⟨_, rfl⟩
    refine ⟨k, ?_⟩
    unfold gramaryelaw10_EmptyTells.f
    rw [hfew _ (by omega)]
    simp only [Option.bind_some]
    rw [hfew2 _ (by omega)]
    simp only [Option.bind_some]
    rw [show empty_Nothing.f t l o' L' = some (x, 0) from hx]
    simp only [Option.bind_some]
    rw [show empty_Ends.f t l o' L' = some (y, 0) from hy]
    simp only [Option.bind_some]
    rw [show empty_Row.f t l o' L' (q.take 10) = some (!((q.take 10).any (rowBad x))) by unfold empty_Row.f; rw [hx]; rfl]
    simp only [Option.bind_some]
    have hrow := row_law x x2 (by omega) K1 hN (q.take 10) hq (q.take 10).length k 0 (by omega) (by omega) (fun j _ hj => by omega)
    rw [show ((0 : Nat) : Int) = 0 from rfl] at hrow
    rw [show gramaryeref10_Row.f k t l o' L' (q.take 10) = some (!((q.take 10).any (rowBad x))) by unfold gramaryeref10_Row.f; rw [hmay _ (by omega)]; simp only [Option.bind_some]; rw [if_pos hm]; exact hrow]
    simp only [Option.bind_some, if_true]
    rw [hmay _ (by omega)]
    simp only [Option.bind_some]
    unfold gramaryelaw10_EmptyTells.g
    rw [if_pos hm, if_pos rfl, if_pos rfl, hN _ (by omega)]
    simp only [Option.bind_some]
    rw [same_bself x (by omega) _ (by omega)]
    simp only [Option.bind_some, if_true]
    rw [hE _ (by omega)]
    simp only [Option.bind_some]
    rw [same_bself y (by omega) _ (by omega)]
    simp only [Option.bind_some, if_true]
    exact works_is _ (by omega)
  · have e1 : ∀ is, empty_marksF is t l o' L' = some ([], bnf_mayB t l o' L') := fun is => by unfold empty_marksF; rw [if_neg hm]
    obtain ⟨k, hk⟩ : ∃ k, k = 20000 := ⟨_, rfl⟩
    refine ⟨k, ?_⟩
    unfold gramaryelaw10_EmptyTells.f
    rw [hfew _ (by omega)]
    simp only [Option.bind_some]
    rw [hfew2 _ (by omega)]
    simp only [Option.bind_some]
    rw [show empty_Nothing.f t l o' L' = some ([], bnf_mayB t l o' L') from e1 _]
    simp only [Option.bind_some]
    rw [show empty_Ends.f t l o' L' = some ([], bnf_mayB t l o' L') from e1 _]
    simp only [Option.bind_some]
    rw [show empty_Row.f t l o' L' (q.take 10) = some false by unfold empty_Row.f; rw [e1]; simp [hm]]
    simp only [Option.bind_some]
    rw [show gramaryeref10_Row.f k t l o' L' (q.take 10) = some false by unfold gramaryeref10_Row.f; rw [hmay _ (by omega)]; simp only [Option.bind_some]; rw [if_neg hm]]
    simp only [Option.bind_some, if_true]
    rw [hmay _ (by omega)]
    simp only [Option.bind_some]
    unfold gramaryelaw10_EmptyTells.g
    rw [if_neg hm, if_pos rfl, if_pos rfl, if_pos (show wrap64 ((([] : List Bool).length : Int) + (([] : List Bool).length : Int)) = 0 by show wrap64 (0 + 0) = 0; rw [w64 (by omega) (by omega)]; rfl)]
    exact works_is _ (by omega)
end Go.Proofs.Ytmpdilifoblnaaa.Pure
