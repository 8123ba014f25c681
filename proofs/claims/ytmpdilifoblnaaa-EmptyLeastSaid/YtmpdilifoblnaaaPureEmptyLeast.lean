/- How many tokens the least words of any plain rules have, cut to forty nonterminals and sixty productions, is as the document says, or refused. -/
import Derived.Test.YtmpdilifoblnaaaStatEmptyLeast
import Derived.Test.YtmpdilifoblnaaaBase
import Derived.Test.YtmpdilifoblnaaaFix
namespace Go.Proofs.Ytmpdilifoblnaaa.Pure
open Go.RowKit Go.Proofs.Ytmpdilifoblnaaa.MEmptyLeast Go.Proofs.YtmpdilifoblnaaaW.PrintWords Go.Proofs.YtmpdilifoblnaaaW.PrintLast Go.Proofs.YtmpdilifoblnaaaW.PrintMore Go.Proofs.Ytmpdilifoblnaaa.Base Go.Proofs.Ytmpdilifoblnaaa.Fix Go.Proofs.Ytmpdilifoblnaaa.Mem
set_option linter.unusedSimpArgs false
set_option linter.unusedVariables false
/-! rules that are not too great, and whether rules may be -/
theorem rd51 (L : List S51) (i : Nat) (h : i < L.length) : rd_T51 L (i : Int) = L[i] := by
  unfold rd_T51
  rw [Int.toNat_natCast, List.getD_eq_getElem?_getD, List.getElem?_eq_getElem h]; rfl
theorem rd59 (L : List S59) (i : Nat) (h : i < L.length) : rd_T59 L (i : Int) = L[i] := by
  unfold rd_T59
  rw [Int.toNat_natCast, List.getD_eq_getElem?_getD, List.getElem?_eq_getElem h]; rfl
theorem w1 (i : Nat) (h : i < 1000000000) : wrap64 ((i : Int) + 1) = ((i + 1 : Nat) : Int) := by rw [w64 (by omega) (by omega)]; omega
theorem mn_nat (a b : Nat) : mn (a : Int) (b : Int) = ((min a b : Nat) : Int) := by unfold mn; split <;> omega
def cut8 (p : S51) : S51 := ⟨p.f0, p.f1.take 8⟩
theorem few_l0 (P : Nat) (hP : P ≤ 1000) (t l : Int) (o o' : List Int) (L : List S51) (d : Nat) : ∀ (k i : Nat) (acc : List S51), i + d = min P L.length → d < k → acc = (L.take i).map cut8 →
    gramaryeref09_Few.l0 k (P : Int) (i : Int) t l o L t l o' acc = some (t, l, o', (L.take P).map cut8) := by
  induction d with
  | zero =>
    intro k i acc h1 h2 h3
    obtain ⟨k, rfl⟩ : ∃ m, k = m + 1 := ⟨k - 1, by omega⟩
    have e : L.take i = L.take P := by
      rcases Nat.le_total P L.length with h | h
      · rw [show i = P by omega]
      · rw [List.take_of_length_le (by omega), List.take_of_length_le (by omega)]
    rw [gramaryeref09_Few.l0]
    by_cases hi : (i : Int) < (L.length : Int)
    · rw [if_pos hi, if_neg (by omega), h3, e]
    · rw [if_neg hi, h3, e]
  | succ d ih =>
    intro k i acc h1 h2 h3
    obtain ⟨k, rfl⟩ : ∃ m, k = m + 1 := ⟨k - 1, by omega⟩
    have hi : i < L.length := by omega
    have hal : acc.length = i := by rw [h3, List.length_map, List.length_take]; omega
    have hm : mn ((L[i].f1.length : Nat) : Int) 8 = ((min L[i].f1.length 8 : Nat) : Int) := mn_nat _ 8
    have ht : L[i].f1.take (min L[i].f1.length 8) = L[i].f1.take 8 := by
      rcases Nat.le_total L[i].f1.length 8 with h | h
      · rw [Nat.min_eq_left h, List.take_of_length_le (Nat.le_refl _), List.take_of_length_le h]
      · rw [Nat.min_eq_right h]
    rw [gramaryeref09_Few.l0, if_pos (by omega), if_pos (by omega), if_pos (by omega), rd51 L i hi]
    simp only [Option.bind_some]
    rw [hm, if_pos (by omega), if_pos (by omega)]
    simp only [Option.bind_some, Int.toNat_natCast, List.length_nil, List.nil_append]
    have hl8 : (L[i].f1.take (min L[i].f1.length 8)).length ≤ 8 := by rw [List.length_take]; omega
    rw [if_pos (by omega), if_pos (by omega), w1 i (by omega), ht]
    refine ih k (i + 1) _ (by omega) (by omega) ?_
    rw [List.take_succ_eq_append_getElem hi, List.map_append, h3]
    rfl
theorem ints_is (l : List Int) (h : l.length ≤ 1000000) : gramaryebase_Ints.f l = some l := by
  unfold gramaryebase_Ints.f
  simp only [Option.bind_some, List.nil_append]
  rw [if_pos (by simp only [List.length_nil]; omega)]
theorem few_is (N P : Nat) (hN : N ≤ 1000) (hP : P ≤ 1000) (t l : Int) (o : List Int) (L : List S51) (k : Nat) (hk : P < k) :
    gramaryeref09_Few.f k t l o L (N : Int) (P : Int) = some (t, l, o.take N, (L.take P).map cut8) := by
  unfold gramaryeref09_Few.f
  rw [mn_nat, if_pos (by omega), if_pos (by omega)]
  simp only [Int.toNat_natCast]
  have ht : o.take (min o.length N) = o.take N := by
    rcases Nat.le_total o.length N with h | h
    · rw [Nat.min_eq_left h, List.take_of_length_le (Nat.le_refl _), List.take_of_length_le h]
    · rw [Nat.min_eq_right h]
  rw [ht, ints_is _ (by rw [List.length_take]; omega)]
  simp only [Option.bind_some]
  exact few_l0 P hP t l o (o.take N) L (min P L.length) k 0 [] (by omega) (by omega) rfl
theorem cut8_cut8 (p : S51) : cut8 (cut8 p) = cut8 p := by unfold cut8; simp only [List.take_take, Nat.min_self]
theorem few_again (P : Nat) (L : List S51) : (((L.take P).map cut8).take P).map cut8 = (L.take P).map cut8 := by
  rw [List.take_of_length_le (by simp; omega), List.map_map]
  congr 1
  funext p
  exact cut8_cut8 p
/-- Rules that were cut. -/
structure Small (N P : Nat) (o : List Int) (L : List S51) : Prop where
  o : o.length ≤ N
  l : L.length ≤ P
  r : ∀ p ∈ L, p.f1.length ≤ 8
theorem few_small (N P : Nat) (o : List Int) (L : List S51) : Small N P (o.take N) ((L.take P).map cut8) :=
  ⟨by rw [List.length_take]; omega, by simp; omega, fun p hp => by
    obtain ⟨q, _, rfl⟩ := List.mem_map.1 hp
    unfold cut8; simp; omega⟩

theorem may_l2 (t l : Int) (o : List Int) (L : List S51) (pos : Int) (x0 : Int) (r : List S59) (hr : r.length ≤ 1000) (d : Nat) : ∀ (k i : Nat), i + d = r.length →
    gramaryeref09_May.l2 (k + d + 1) pos (i : Int) t l o L x0 r = if (r.drop i).any (fun s => !bnf_symB t o.length s) = true then some 4 else gramaryeref09_May.l1 k (wrap64 (pos + 1)) t l o L := by
  induction d with
  | zero =>
    intro k i h1
    rw [gramaryeref09_May.l2, if_neg (by omega), List.drop_of_length_le (by omega)]
    rfl
  | succ d ih =>
    intro k i h1
    have hi : i < r.length := by omega
    have hs := rd59 r i hi
    have ih' := ih k (i + 1) (by omega)
    rw [show k + (d + 1) + 1 = (k + d + 1) + 1 by omega, gramaryeref09_May.l2, if_pos (by omega), if_pos (by omega), hs, w1 i (by omega), ih', List.drop_eq_getElem_cons hi, List.any_cons]
    generalize (List.drop (i + 1) r).any (fun s => !bnf_symB t o.length s) = q
    obtain ⟨tok, x⟩ := r[i]
    unfold bnf_symB
    cases tok with
    | true =>
      simp only [if_true]
      by_cases h1 : x < 1
      · rw [if_pos h1, decide_eq_false (by omega)]; simp
      · rw [if_neg h1]
        by_cases h2 : x > t
        · rw [if_pos h2, decide_eq_false (by omega)]; simp
        · rw [if_neg h2, decide_eq_true (by omega)]; simp
    | false =>
      simp only [Bool.false_eq_true, if_false]
      by_cases h1 : x < 0
      · rw [if_pos h1, decide_eq_false (by omega)]; simp
      · rw [if_neg h1]
        by_cases h2 : x ≥ (o.length : Int)
        · rw [if_pos h2, decide_eq_false (by omega)]; simp
        · rw [if_neg h2, decide_eq_true (by omega)]; simp
theorem may_l1 (t l : Int) (o : List Int) (L : List S51) (hL : L.length ≤ 1000) (hr : ∀ p ∈ L, p.f1.length ≤ 8) (d : Nat) : ∀ (k i : Nat), i + d = L.length → 12 * d < k →
    gramaryeref09_May.l1 k (i : Int) t l o L = some (if (L.drop i).any (fun p => !bnf_prodB t o.length p) = true then 4 else 0) := by
  induction d with
  | zero =>
    intro k i h1 h2
    obtain ⟨k, rfl⟩ : ∃ m, k = m + 1 := ⟨k - 1, by omega⟩
    rw [gramaryeref09_May.l1, if_neg (by omega), List.drop_of_length_le (by omega)]
    rfl
  | succ d ih =>
    intro k i h1 h2
    have hi : i < L.length := by omega
    have hp8 := hr L[i] (List.getElem_mem hi)
    obtain ⟨k, rfl⟩ : ∃ m, k = m + L[i].f1.length + 1 + 2 := ⟨k - (L[i].f1.length + 3), by omega⟩
    rw [gramaryeref09_May.l1, if_pos (by omega), if_pos (by omega), rd51 L i hi, List.drop_eq_getElem_cons hi, List.any_cons]
    have hl2 := may_l2 t l o L (i : Int) L[i].f0 L[i].f1 (by omega) L[i].f1.length k 0 (by omega)
    rw [w1 i (by omega), ih k (i + 1) (by omega) (by omega), List.drop_zero, show ((0 : Nat) : Int) = 0 from rfl] at hl2
    by_cases h0 : L[i].f0 < 0
    · have e : bnf_prodB t o.length L[i] = false := by unfold bnf_prodB; rw [decide_eq_false (by omega)]; rfl
      rw [if_pos h0, gramaryeref09_May.j4, if_pos rfl, e]; rfl
    · rw [if_neg h0, gramaryeref09_May.j4]
      by_cases h3 : L[i].f0 ≥ (o.length : Int)
      · have e : bnf_prodB t o.length L[i] = false := by unfold bnf_prodB; rw [decide_eq_false (show ¬ L[i].f0 < (o.length : Int) by omega)]; simp
        rw [if_pos (decide_eq_true h3), e]; rfl
      · have e : bnf_prodB t o.length L[i] = !(L[i].f1.any (fun s => !bnf_symB t o.length s)) := by
          unfold bnf_prodB
          rw [decide_eq_true (show 0 ≤ L[i].f0 by omega), decide_eq_true (show L[i].f0 < (o.length : Int) by omega), Bool.true_and, Bool.true_and]
        rw [if_neg (by simpa using h3), hl2, e]
        cases hq : L[i].f1.any (fun s => !bnf_symB t o.length s)
        · rfl
        · rfl
theorem may_l0 (t l : Int) (o : List Int) (L : List S51) (hL : L.length ≤ 1000) (hr : ∀ p ∈ L, p.f1.length ≤ 8) (d : Nat) : ∀ (k i : Nat), i + d = L.length → d + 12 * L.length + 3 < k →
    gramaryeref09_May.l0 k (i : Int) t l o L = some (if ¬ (1 ≤ l ∧ l ≤ 4) then 11 else if L.any (fun p => !bnf_prodB t o.length p) = true then 4 else 0) := by
  induction d with
  | zero =>
    intro k i h1 h2
    obtain ⟨k, rfl⟩ : ∃ m, k = m + 2 := ⟨k - 2, by omega⟩
    have hl1 := may_l1 t l o L hL hr L.length k 0 (by omega) (by omega)
    rw [List.drop_zero, show ((0 : Nat) : Int) = 0 from rfl] at hl1
    rw [gramaryeref09_May.l0, if_neg (by omega)]
    by_cases h : l < 1
    · rw [if_pos h, gramaryeref09_May.j2, if_pos rfl, if_pos (by omega)]
    · rw [if_neg h, gramaryeref09_May.j2]
      by_cases h4 : l > 4
      · rw [if_pos (decide_eq_true h4), if_pos (by omega)]
      · rw [if_neg (by simpa using h4), hl1, if_neg (show ¬ ¬ (1 ≤ l ∧ l ≤ 4) by omega)]
  | succ d ih =>
    intro k i h1 h2
    obtain ⟨k, rfl⟩ : ∃ m, k = m + 1 := ⟨k - 1, by omega⟩
    have hi : i < L.length := by omega
    have hp8 := hr L[i] (List.getElem_mem hi)
    rw [gramaryeref09_May.l0, if_pos (by omega), if_pos (by omega), rd51 L i hi, if_neg (by omega), w1 i (by omega)]
    exact ih k (i + 1) (by omega) (by omega)
theorem may_is {N P : Nat} (hN : N ≤ 400) (hP : P ≤ 1000) (t l : Int) (o : List Int) (L : List S51) (h : Small N P o L) (k : Nat) (hk : 20000 ≤ k) : gramaryeref09_May.f k t l o L = some (bnf_mayB t l o L) := by
  have hl := h.l
  have ho := h.o
  obtain ⟨k, rfl⟩ : ∃ m, k = m + 1 := ⟨k - 1, by omega⟩
  have h0 := may_l0 t l o L (by omega) h.r L.length k 0 (by omega) (by omega)
  rw [show ((0 : Nat) : Int) = 0 from rfl] at h0
  have hlong : ¬ (L.any bnf_longB = true) := by
    intro e
    obtain ⟨p, hp, hq⟩ := List.any_eq_true.1 e
    have := h.r p hp
    unfold bnf_longB at hq
    simp at hq
    omega
  unfold gramaryeref09_May.f bnf_mayB
  by_cases a1 : t < 1
  · rw [if_pos a1, gramaryeref09_May.j0, if_pos rfl, if_pos (.inl (by omega))]
  rw [if_neg a1]
  by_cases a2 : t > 60
  · rw [if_pos a2, gramaryeref09_May.j0, if_pos rfl, if_pos (.inl (by omega))]
  rw [if_neg a2]
  by_cases a3 : (o.length : Int) < 1
  · rw [if_pos a3, gramaryeref09_May.j0, if_pos rfl, if_pos (.inr (.inl (by omega)))]
  rw [if_neg a3, if_neg (by omega)]
  by_cases a4 : (L.length : Int) < 1
  · rw [if_pos a4, gramaryeref09_May.j0, if_pos rfl, if_pos (.inr (.inr (.inl (by omega))))]
  have hno : ¬ (¬ (1 ≤ t ∧ t ≤ 60) ∨ ¬ (1 ≤ o.length ∧ o.length ≤ 500) ∨ ¬ (1 ≤ L.length ∧ L.length ≤ 2000) ∨ L.any bnf_longB = true) := by
    rintro (h | h | h | h)
    · omega
    · omega
    · omega
    · exact hlong h
  rw [if_neg a4, gramaryeref09_May.j0, if_neg (by simp; omega), h0, if_neg hno]
/-! the state of least words, as natural numbers: 1000001 is none -/
def keyI (x : Int) : Nat := if x < 0 then 1000001 else x.toNat
def stI (v : List Int) : Nat → Nat := fun i => keyI (v.getD i (-1))
def sumU (u : Nat → Nat) : List S59 → Option Nat
  | [] => some 0
  | s :: l => if s.f0 = true then (sumU u l).map (1 + ·) else if 1000001 ≤ u s.f1.toNat then none else (sumU u l).map (u s.f1.toNat + ·)
def valU (l : List S59) (u : Nat → Nat) : Nat := match sumU u l with
  | none => 1000001
  | some n => min n 1000000
def psU (L : List S51) : List Pr := L.map fun p => (p.f0.toNat, valU p.f1)
theorem psU_length (L : List S51) : (psU L).length = L.length := by simp [psU]
theorem psU_get (L : List S51) (i : Nat) (h : i < L.length) (h' : i < (psU L).length) : (psU L)[i] = (L[i].f0.toNat, valU L[i].f1) := by simp [psU]
theorem keyI_le {x : Int} (h : x ≤ 1000000) : keyI x ≤ 1000001 := by unfold keyI; split <;> omega
theorem keyI_inj {x y : Int} (hx : -1 ≤ x ∧ x ≤ 1000000) (hy : -1 ≤ y ∧ y ≤ 1000000) (h : keyI x = keyI y) : x = y := by
  unfold keyI at h
  split at h <;> split at h <;> omega
theorem keyI_lt {a x : Int} (ha : -1 ≤ a ∧ a ≤ 1000000) (hx : -1 ≤ x ∧ x ≤ 1000000) : keyI a < keyI x ↔ ¬ (a < 0) ∧ ¬ (0 ≤ x ∧ x ≤ a) := by
  unfold keyI
  split <;> split <;> omega
theorem getD_rd (v : List Int) (x : Int) (h0 : 0 ≤ x) (h1 : x < (v.length : Int)) : v.getD x.toNat (-1) = rd v x := by
  unfold rd
  rw [List.getD_eq_getElem?_getD, List.getD_eq_getElem?_getD, List.getElem?_eq_getElem (by omega)]
  rfl
theorem sum_is {v : List Int} (hv : LOk v) : ∀ l : List S59, (∀ s ∈ l, SymOk v.length s) → sumU (stI v) l = (rowSum v l).map Int.toNat
  | [], _ => rfl
  | s :: l, hs => by
    have ih := sum_is hv l (fun q hq => hs q (List.mem_cons_of_mem _ hq))
    have hrg := fun n => rowSum_range hv l n (fun q hq => hs q (List.mem_cons_of_mem _ hq))
    unfold sumU rowSum
    by_cases ht : s.f0 = true
    · rw [if_pos ht, if_pos ht, ih]
      cases h : rowSum v l with
      | none => rfl
      | some n => have := hrg n h; simp only [Option.map_some]; congr 1; omega
    · have hk := hs s List.mem_cons_self (by simpa using ht)
      have hx := hv _ (rd_mem v s.f1 hk.1 hk.2)
      have hst : stI v s.f1.toNat = keyI (rd v s.f1) := by unfold stI; rw [getD_rd v _ hk.1 hk.2]
      rw [if_neg ht, if_neg ht, hst]
      unfold keyI
      by_cases hn : rd v s.f1 < 0
      · rw [if_pos hn, if_pos hn, if_pos (Nat.le_refl _)]; rfl
      · rw [if_neg hn, if_neg hn, if_neg (by omega), ih]
        cases h : rowSum v l with
        | none => rfl
        | some n => have := hrg n h; simp only [Option.map_some]; congr 1; omega
theorem val_is {v : List Int} (hv : LOk v) (l : List S59) (hs : ∀ s ∈ l, SymOk v.length s) : valU l (stI v) = keyI (rowVal v l) := by
  unfold valU rowVal
  rw [sum_is hv l hs]
  cases h : rowSum v l with
  | none => rfl
  | some n =>
    have := rowSum_range hv l n hs h
    show min n.toNat 1000000 = keyI (mn n 1000000)
    unfold keyI mn
    split <;> split <;> omega
theorem sum_mono {u u' : Nat → Nat} (h : ∀ i, u i ≤ u' i) : ∀ l : List S59, (∀ n', sumU u' l = some n' → ∃ n, sumU u l = some n ∧ n ≤ n')
  | [], n', e => ⟨0, rfl, by simp [sumU] at e; omega⟩
  | s :: l, n', e => by
    have ih := sum_mono h l
    unfold sumU at e ⊢
    by_cases ht : s.f0 = true
    · rw [if_pos ht] at e ⊢
      obtain ⟨m, h1, h2⟩ := Option.map_eq_some_iff.1 e
      obtain ⟨n, h3, h4⟩ := ih m h1
      exact ⟨1 + n, by rw [h3]; rfl, by omega⟩
    · rw [if_neg ht] at e ⊢
      have hu := h s.f1.toNat
      by_cases hn : 1000001 ≤ u' s.f1.toNat
      · rw [if_pos hn] at e; exact absurd e (by simp)
      · rw [if_neg hn] at e
        rw [if_neg (by omega)]
        obtain ⟨m, h1, h2⟩ := Option.map_eq_some_iff.1 e
        obtain ⟨n, h3, h4⟩ := ih m h1
        exact ⟨u s.f1.toNat + n, by rw [h3]; rfl, by omega⟩
theorem val_mono (l : List S59) : Mono1 (valU l) := by
  intro u u' h
  unfold valU
  cases e' : sumU u' l with
  | none =>
    show _ ≤ 1000001
    cases sumU u l with
    | none => exact Nat.le_refl _
    | some n => show min n 1000000 ≤ 1000001; omega
  | some n' =>
    obtain ⟨n, e, hn⟩ := sum_mono h l n' e'
    rw [e]
    show min n 1000000 ≤ min n' 1000000
    omega
theorem sum_upd (u : Nat → Nat) (x y : Nat) : ∀ l : List S59, (∀ s ∈ l, s.f0 = false → s.f1.toNat ≠ x) → sumU (upd u x y) l = sumU u l
  | [], _ => rfl
  | s :: l, h => by
    have ih := sum_upd u x y l (fun q hq => h q (List.mem_cons_of_mem _ hq))
    unfold sumU
    by_cases ht : s.f0 = true
    · rw [if_pos ht, if_pos ht, ih]
    · have := h s List.mem_cons_self (by simpa using ht)
      have e : upd u x y s.f1.toNat = u s.f1.toNat := by unfold upd; rw [if_neg this]
      rw [if_neg ht, if_neg ht, e, ih]
/-! whose productions a nonterminal stands in -/
theorem mem_occS {i n m : Int} {l : List S59} : (n, m) ∈ occS i l ↔ m = i ∧ ∃ s ∈ l, s.f0 = false ∧ s.f1 = n := by
  unfold occS
  rw [List.mem_map]
  constructor
  · rintro ⟨s, hs, e⟩
    rw [List.mem_filter] at hs
    simp only [Prod.mk.injEq] at e
    exact ⟨e.2.symm, s, hs.1, by simpa using hs.2, e.1⟩
  · rintro ⟨rfl, s, hs, h0, rfl⟩
    exact ⟨s, List.mem_filter.2 ⟨hs, by simp [h0]⟩, rfl⟩
theorem mem_occ {n m : Int} : ∀ (L : List S51) (i : Int), (n, m) ∈ occ i L ↔ ∃ j : Nat, ∃ h : j < L.length, m = i + j ∧ ∃ s ∈ (L[j]).f1, s.f0 = false ∧ s.f1 = n
  | [], i => by simp [occ]
  | p :: ps, i => by
    simp only [occ, List.mem_append, mem_occS, mem_occ ps (i + 1)]
    constructor
    · rintro (⟨rfl, h⟩ | ⟨j, hj, rfl, h⟩)
      · exact ⟨0, by simp, by omega, h⟩
      · exact ⟨j + 1, by simp; omega, by omega, h⟩
    · rintro ⟨j, hj, rfl, h⟩
      cases j with
      | zero => exact .inl ⟨by omega, h⟩
      | succ j => exact .inr ⟨j, by simp at hj; omega, by omega, h⟩
theorem mem_whoOf {L : List S51} {n m : Int} : m ∈ whoOf (occ 0 L) n ↔ ∃ j : Nat, ∃ h : j < L.length, m = (j : Int) ∧ ∃ s ∈ (L[j]).f1, s.f0 = false ∧ s.f1 = n := by
  unfold whoOf
  rw [List.mem_map]
  constructor
  · rintro ⟨⟨a, b⟩, h, rfl⟩
    rw [List.mem_filter] at h
    have e : a = n := by simpa using h.2
    subst e
    obtain ⟨j, hj, e, hs⟩ := (mem_occ L 0).1 h.1
    exact ⟨j, hj, by simpa using e, hs⟩
  · rintro ⟨j, hj, rfl, hs⟩
    exact ⟨(n, (j : Int)), List.mem_filter.2 ⟨(mem_occ L 0).2 ⟨j, hj, by omega, hs⟩, by simp⟩, rfl⟩
theorem whoOf_len (o : List (Int × Int)) (n : Int) : (whoOf o n).length ≤ o.length := by
  unfold whoOf
  rw [List.length_map]
  exact List.length_filter_le _ _
/-- Rules of which each symbol, and each left side, is one of n. -/
def InN (n : Nat) (L : List S51) : Prop := ∀ p ∈ L, 0 ≤ p.f0 ∧ p.f0 < (n : Int) ∧ ∀ s ∈ p.f1, SymOk n s
theorem may_inN {t l : Int} {o : List Int} {L : List S51} (h : bnf_mayB t l o L = 0) : InN o.length L := fun p hp =>
  ⟨((bnf_may_ok h).2.2.2 p hp).2.1, ((bnf_may_ok h).2.2.2 p hp).2.2.1, ((bnf_may_ok h).2.2.2 p hp).2.2.2⟩
theorem stI_set {v : List Int} {x : Int} {y : Int} (h0 : 0 ≤ x) (h1 : x < (v.length : Int)) : stI (v.set x.toNat y) = upd (stI v) x.toNat (keyI y) := by
  funext j
  unfold stI upd
  rw [List.getD_eq_getElem?_getD, List.getElem?_set]
  by_cases e : x.toNat = j
  · subst e
    rw [if_pos rfl, if_pos (by omega), if_pos rfl]; rfl
  · rw [if_neg e, if_neg (fun h => e h.symm), ← List.getD_eq_getElem?_getD]
def u0I : Nat → Nat := fun _ => 1000001
theorem least_ok {t l : Int} {o : List Int} {L : List S51} (hm : bnf_mayB t l o L = 0) (hs : Small 40 60 o L) :
    ∃ v, empty_Least.f t l o L = some (v, 0) ∧ (LOk v ∧ v.length = o.length) ∧ Above (psU L) u0I (stI v) ∧ Stable (psU L) (stI v) := by
  have hin := may_inN hm
  have hocc : (occ 0 L).length ≤ 500 * L.length := occ_len L 0 (fun p hp => by have := hs.r p hp; omega)
  have hl := hs.l
  have ho := hs.o
  have key : ∃ r, leastG (occ 0 L) L (L.length + o.length * 1000002 * (occ 0 L).length + 1) (List.replicate o.length (-1)) (upTo L.length) = some r ∧ (LOk r ∧ r.length = o.length) ∧ Above (psU L) u0I (stI r) ∧ Stable (psU L) (stI r) := by
    refine work_ends (leastG (occ 0 L) L) stI (fun v => LOk v ∧ v.length = o.length) (psU L) (fun x => whoOf (occ 0 L) (x : Int)) o.length (occ 0 L).length 17592186044416 u0I ?_ ?_ ?_ ?_ ?_ ?_ ?_ _ _ _ ?_ ?_ ?_ ?_ ?_ ?_
    · intro p hp
      obtain ⟨q, _, rfl⟩ := List.mem_map.1 hp
      exact val_mono q.f1
    · intro p hp
      obtain ⟨q, hq, rfl⟩ := List.mem_map.1 hp
      have := hin q hq
      show q.f0.toNat < o.length
      omega
    · intro x
      refine ⟨whoOf_len _ _, fun j hj => ?_⟩
      obtain ⟨j, hj, rfl, _⟩ := mem_whoOf.1 hj
      rw [psU_length]
      omega
    · intro j hj u x y hno
      have hj' : j < L.length := by rwa [psU_length] at hj
      rw [psU_get L j hj' hj]
      show valU _ _ = valU _ _
      unfold valU
      rw [sum_upd u x y L[j].f1 (fun s hs h0 e => hno (mem_whoOf.2 ⟨j, hj', rfl, s, hs, h0, by
        have := (hin _ (List.getElem_mem hj')).2.2 s hs h0
        omega⟩))]
    · intro k s; rfl
    · intro k v i hi rest hv himp
      have hi' : i < L.length := by rwa [psU_length] at hi
      rw [psU_get L i hi' hi] at himp
      obtain ⟨a0, a1, a2⟩ := hin _ (List.getElem_mem hi')
      have hsy : ∀ s ∈ L[i].f1, SymOk v.length s := by rw [hv.2]; exact a2
      have hvl : L[i].f0 < (v.length : Int) := by rw [hv.2]; exact a1
      simp only at himp
      rw [val_is hv.1 _ hsy, show stI v L[i].f0.toNat = keyI (rd v L[i].f0) from by unfold stI; rw [getD_rd v _ a0 hvl], keyI_lt (rowVal_range hv.1 _ hsy) (hv.1 _ (rd_mem v _ a0 hvl))] at himp
      rw [leastG, rd51 L i hi', if_pos ⟨by omega, by omega, a0, hvl⟩]
      by_cases h1 : rowVal v L[i].f1 < 0
      · rw [if_pos h1]
      · rw [if_neg h1, if_pos (by
          rcases Classical.em (0 ≤ rd v L[i].f0 ∧ rd v L[i].f0 ≤ rowVal v L[i].f1) with h | h
          · exact h
          · exact absurd ⟨h1, h⟩ himp)]
    · intro k v i hi rest hv himp hroom
      have hi' : i < L.length := by rwa [psU_length] at hi
      rw [psU_get L i hi' hi] at himp hroom ⊢
      obtain ⟨a0, a1, a2⟩ := hin _ (List.getElem_mem hi')
      have hsy : ∀ s ∈ L[i].f1, SymOk v.length s := by rw [hv.2]; exact a2
      have hvl : L[i].f0 < (v.length : Int) := by rw [hv.2]; exact a1
      have hrr := rowVal_range hv.1 _ hsy
      simp only at himp hroom ⊢
      rw [val_is hv.1 _ hsy, show stI v L[i].f0.toNat = keyI (rd v L[i].f0) from by unfold stI; rw [getD_rd v _ a0 hvl], keyI_lt hrr (hv.1 _ (rd_mem v _ a0 hvl))] at himp
      rw [show ((L[i].f0.toNat : Nat) : Int) = L[i].f0 by omega] at hroom ⊢
      refine ⟨v.set L[i].f0.toNat (rowVal v L[i].f1), ⟨hv.1.set _ hrr, by rw [List.length_set]; exact hv.2⟩, ?_, ?_⟩
      · rw [stI_set a0 hvl, val_is hv.1 _ hsy]
      · rw [leastG, rd51 L i hi', if_pos ⟨by omega, by omega, a0, hvl⟩, if_neg himp.1, if_neg himp.2, if_pos hroom]
    · exact ⟨fun x hx => by rw [List.eq_of_mem_replicate hx]; decide, by simp⟩
    · have e : stI (List.replicate o.length (-1)) = u0I := by
        funext j
        unfold stI u0I
        rw [List.getD_eq_getElem?_getD, List.getElem?_replicate]
        split <;> rfl
      rw [e]; exact Above.init _ _
    · intro j hj
      unfold upTo at hj
      obtain ⟨i, hi, rfl⟩ := List.mem_map.1 hj
      rw [List.mem_range] at hi
      rw [psU_length]
      show 0 ≤ (i : Int) ∧ (i : Int) < _
      omega
    · intro j hj _
      rw [psU_length] at hj
      unfold upTo
      exact List.mem_map.2 ⟨j, List.mem_range.2 hj, rfl⟩
    · rw [upTo_length]
      have h1 := tot_le (u := stI (List.replicate o.length (-1))) (b := 1000001) (fun i => by
        unfold stI
        rw [List.getD_eq_getElem?_getD, List.getElem?_replicate]
        split <;> decide) o.length
      have h2 := Nat.mul_le_mul_right (occ 0 L).length h1
      have h3 := Nat.mul_le_mul_right (occ 0 L).length (Nat.mul_le_mul_left o.length (show 1000001 ≤ 1000002 by omega))
      omega
    · have h3 : o.length * 1000002 * (occ 0 L).length ≤ 40 * 1000002 * 30000 := Nat.mul_le_mul (Nat.mul_le_mul_right _ ho) (by omega)
      omega
  obtain ⟨r, h1, h2⟩ := key
  refine ⟨r, ?_, h2⟩
  unfold empty_Least.f
  rw [if_pos hm, h1]
  rfl
/-! the reference's rounds -/
section
variable (t l : Int) (o : List Int) (L : List S51)
theorem ev_l1_false (s : List Int) : Ev (fun k => gramaryeref10_Least.l1 k s false t l o L) s := ⟨1, fun k hk => by
  obtain ⟨k, rfl⟩ : ∃ m, k = m + 1 := ⟨k - 1, by omega⟩
  show gramaryeref10_Least.l1 (k + 1) s false t l o L = some s
  rw [gramaryeref10_Least.l1, if_neg (by decide)]⟩
theorem ev_l1_true {s r : List Int} (h : Ev (fun k => gramaryeref10_Least.l2 k s false 0 t l o L) r) : Ev (fun k => gramaryeref10_Least.l1 k s true t l o L) r :=
  Ev.step (fun k => by rw [gramaryeref10_Least.l1, if_pos rfl]) h
theorem ev_l2_end {s r : List Int} {more : Bool} (h : Ev (fun k => gramaryeref10_Least.l1 k s more t l o L) r) : Ev (fun k => gramaryeref10_Least.l2 k s more (L.length : Int) t l o L) r :=
  Ev.step (fun k => by rw [gramaryeref10_Least.l2, if_neg (by omega)]) h
/-- What a production's look leaves. -/
def lookU (s : List Int) (more : Bool) (p : S51) (N : Int) : List Int × Bool := if mn N 1000000 ≥ 0 ∧ (rd s p.f0 < 0 ∨ mn N 1000000 < rd s p.f0) then (s.set p.f0.toNat (mn N 1000000), true) else (s, more)
theorem ev_fin {s r : List Int} {more : Bool} {i : Nat} (hi : i < L.length) (hL : L.length ≤ 1000) (N : Int) (kk : Int) (h0 : 0 ≤ L[i].f0) (h1 : L[i].f0 < (s.length : Int))
    (h : Ev (fun k => gramaryeref10_Least.l2 k (lookU s more L[i] N).1 (lookU s more L[i] N).2 ((i + 1 : Nat) : Int) t l o L) r) : Ev (fun k => gramaryeref10_Least.j4 k s more (i : Int) N kk false t l o L) r := by
  refine Ev.step (fun k => ?_) h
  rw [gramaryeref10_Least.j4, if_neg (by decide), if_pos (by omega), if_pos (by omega), rd51 L i hi, w1 i (by omega)]
  unfold lookU
  by_cases a : mn N 1000000 ≥ 0
  · rw [if_pos a, if_pos h0, if_pos h1]
    by_cases b : rd s L[i].f0 < 0
    · rw [if_pos b, if_pos ⟨a, .inl b⟩]
    · rw [if_neg b]
      by_cases c : mn N 1000000 < rd s L[i].f0
      · rw [if_pos c, if_pos ⟨a, .inr c⟩]
      · rw [if_neg c, if_neg (fun h => h.2.elim b c)]
  · rw [if_neg a, if_neg (fun h => a h.1)]
def totU (s : List Int) (n : Int) (q : List S59) : Int := if n < 0 then -1 else match rowSum s q with | none => -1 | some m => n + m
theorem ev_l3 {s r : List Int} {more : Bool} {i : Nat} (hi : i < L.length) (hL : L.length ≤ 1000) (hs : LOk s) (hsy : ∀ q ∈ L[i].f1, SymOk s.length q) (hr8 : L[i].f1.length ≤ 8) (h0 : 0 ≤ L[i].f0) (h1 : L[i].f0 < (s.length : Int)) (d : Nat) :
    ∀ (n : Int) (kk : Nat), (n = -1 ∨ (0 ≤ n ∧ n ≤ 1000000 * (kk : Int))) → kk + d = L[i].f1.length →
    Ev (fun k => gramaryeref10_Least.l2 k (lookU s more L[i] (totU s n (L[i].f1.drop kk))).1 (lookU s more L[i] (totU s n (L[i].f1.drop kk))).2 ((i + 1 : Nat) : Int) t l o L) r →
    Ev (fun k => gramaryeref10_Least.l3 k s more (i : Int) n (kk : Int) t l o L) r := by
  induction d with
  | zero =>
    intro n kk hn hk h
    have e : totU s n (L[i].f1.drop kk) = n := by
      rw [List.drop_of_length_le (by omega)]
      unfold totU
      rcases hn with rfl | hn
      · rfl
      · rw [if_neg (by omega)]; simp [rowSum]
    rw [e] at h
    refine Ev.step (fun k => ?_) (ev_fin t l o L hi hL n (kk : Int) h0 h1 h)
    rw [gramaryeref10_Least.l3, if_pos (by omega), if_pos (by omega), rd51 L i hi, if_neg (by omega)]
  | succ d ih =>
    intro n kk hn hk h
    have hkl : kk < L[i].f1.length := by omega
    rcases hn with rfl | hn
    · have e : totU s (-1) (L[i].f1.drop kk) = -1 := by unfold totU; rfl
      rw [e] at h
      refine Ev.step (fun k => ?_) (ev_fin t l o L hi hL (-1) (kk : Int) h0 h1 h)
      rw [gramaryeref10_Least.l3, if_pos (by omega), if_pos (by omega), rd51 L i hi, if_pos (by omega)]
      rfl
    · have hd : (decide (n ≥ 0)) = true := decide_eq_true hn.1
      have hq := hsy _ (List.getElem_mem hkl)
      rw [List.drop_eq_getElem_cons hkl] at h
      generalize hqq : L[i].f1[kk] = q at hq h
      have hrd : rd_T59 L[i].f1 (kk : Int) = q := by rw [rd59 _ kk hkl, hqq]
      by_cases ht : q.f0 = true
      · have e : totU s n (q :: L[i].f1.drop (kk + 1)) = totU s (n + 1) (L[i].f1.drop (kk + 1)) := by
          unfold totU
          rw [if_neg (by omega), if_neg (by omega), rowSum, if_pos ht]
          cases rowSum s (L[i].f1.drop (kk + 1)) with
          | none => rfl
          | some m => simp only [Option.map_some]; omega
        rw [e] at h
        have h3 := ih (n + 1) (kk + 1) (.inr (by omega)) (by omega) h
        refine Ev.step (f := fun k => gramaryeref10_Least.j4 k s more (i : Int) n (kk : Int) true t l o L) (fun k => ?_) (Ev.step (fun k => ?_) h3)
        · rw [gramaryeref10_Least.l3, if_pos (by omega), if_pos (by omega), rd51 L i hi, if_pos (by omega), hd]
        · rw [gramaryeref10_Least.j4, if_pos rfl, if_pos (by omega), if_pos (by omega), if_pos (by omega), rd51 L i hi, if_pos (by omega), hrd, if_pos ht, w1 kk (by omega), w64 (by omega) (by omega)]
      · have hk2 := hq (by simpa using ht)
        have hx := hs _ (rd_mem s q.f1 hk2.1 hk2.2)
        by_cases hneg : rd s q.f1 < 0
        · have e : totU s n (q :: L[i].f1.drop (kk + 1)) = totU s (-1) (L[i].f1.drop (kk + 1)) := by
            unfold totU
            rw [if_neg (by omega), rowSum, if_neg ht, if_pos hneg]; rfl
          rw [e] at h
          have h3 := ih (-1) (kk + 1) (.inl rfl) (by omega) h
          refine Ev.step (f := fun k => gramaryeref10_Least.j4 k s more (i : Int) n (kk : Int) true t l o L) (fun k => ?_) (Ev.step (fun k => ?_) h3)
          · rw [gramaryeref10_Least.l3, if_pos (by omega), if_pos (by omega), rd51 L i hi, if_pos (by omega), hd]
          · rw [gramaryeref10_Least.j4, if_pos rfl, if_pos (by omega), if_pos (by omega), if_pos (by omega), rd51 L i hi, if_pos (by omega), hrd, if_neg ht, if_pos hk2.1, if_pos hk2.2, if_pos hneg, w1 kk (by omega)]
        · have e : totU s n (q :: L[i].f1.drop (kk + 1)) = totU s (n + rd s q.f1) (L[i].f1.drop (kk + 1)) := by
            unfold totU
            rw [if_neg (by omega), if_neg (by omega), rowSum, if_neg ht, if_neg hneg]
            cases rowSum s (L[i].f1.drop (kk + 1)) with
            | none => rfl
            | some m => simp only [Option.map_some]; omega
          rw [e] at h
          have h3 := ih (n + rd s q.f1) (kk + 1) (.inr (by omega)) (by omega) h
          refine Ev.step (f := fun k => gramaryeref10_Least.j4 k s more (i : Int) n (kk : Int) true t l o L) (fun k => ?_) (Ev.step (fun k => ?_) h3)
          · rw [gramaryeref10_Least.l3, if_pos (by omega), if_pos (by omega), rd51 L i hi, if_pos (by omega), hd]
          · rw [gramaryeref10_Least.j4, if_pos rfl, if_pos (by omega), if_pos (by omega), if_pos (by omega), rd51 L i hi, if_pos (by omega), hrd, if_neg ht, if_pos hk2.1, if_pos hk2.2, if_neg hneg, w1 kk (by omega), w64 (by omega) (by omega)]
theorem ev_l0 {r : List Int} (n d : Nat) (hn : n ≤ 1000) (h : Ev (fun k => gramaryeref10_Least.l1 k (List.replicate n (-1)) true t l o L) r) : ∀ i : Nat, i + d = n →
    Ev (fun k => gramaryeref10_Least.l0 k (List.replicate i (-1) ++ List.replicate (n - i) 0) (i : Int) t l o L) r := by
  induction d with
  | zero =>
    intro i hi
    obtain rfl : i = n := by omega
    refine Ev.step (fun k => ?_) h
    rw [Nat.sub_self, List.replicate_zero, List.append_nil, gramaryeref10_Least.l0, if_neg (by simp)]
  | succ d ih =>
    intro i hi
    refine Ev.step (fun k => ?_) (ih (i + 1) (by omega))
    have e : (List.replicate i (-1 : Int) ++ List.replicate (n - i) 0).set i (-1) = List.replicate (i + 1) (-1) ++ List.replicate (n - (i + 1)) 0 := by
      rw [List.set_append_right _ _ (by simp), List.length_replicate, Nat.sub_self, show n - i = (n - (i + 1)) + 1 by omega, List.replicate_succ (n := n - (i + 1)), List.set_cons_zero, List.replicate_succ' (n := i), List.append_assoc]
      rfl
    rw [gramaryeref10_Least.l0, if_pos (by simp; omega), if_pos (by omega), Int.toNat_natCast, e, w1 i (by omega)]
end
theorem tot_row {s : List Int} (hs : LOk s) (q : List S59) (hsy : ∀ x ∈ q, SymOk s.length x) : mn (totU s 0 q) 1000000 = rowVal s q := by
  unfold totU rowVal
  rw [if_neg (by decide)]
  cases rowSum s q with
  | none => rfl
  | some m => simp
theorem ref_least {t l : Int} {o : List Int} {L : List S51} (hm : bnf_mayB t l o L = 0) (hs : Small 40 60 o L) :
    ∃ v, Ev (fun k => gramaryeref10_Least.f k t l o L) v ∧ (LOk v ∧ v.length = o.length) ∧ Above (psU L) u0I (stI v) ∧ Stable (psU L) (stI v) := by
  have hin := may_inN hm
  have hl := hs.l
  have ho := hs.o
  have pre : ∀ (v : List Int) (more : Bool) (i : Nat) (hi' : i < L.length), (LOk v ∧ v.length = o.length) → ∀ r, Ev (fun k => gramaryeref10_Least.l2 k (lookU v more L[i] (totU v 0 L[i].f1)).1 (lookU v more L[i] (totU v 0 L[i].f1)).2 ((i + 1 : Nat) : Int) t l o L) r → Ev (fun k => gramaryeref10_Least.l2 k v more (i : Int) t l o L) r := by
    intro v more i hi' hv r h
    obtain ⟨a0, a1, a2⟩ := hin _ (List.getElem_mem hi')
    have h3 := ev_l3 t l o L hi' (by omega) hv.1 (by rw [hv.2]; exact a2) (hs.r _ (List.getElem_mem hi')) a0 (by rw [hv.2]; exact a1) L[i].f1.length 0 0 (.inr (by omega)) (by omega) (by rw [List.drop_zero]; exact h)
    refine Ev.step (fun k => ?_) h3
    rw [gramaryeref10_Least.l2, if_pos (by omega)]
    rfl
  have key : ∃ r, Ev (fun k => gramaryeref10_Least.l1 k (List.replicate o.length (-1)) true t l o L) r ∧ (LOk r ∧ r.length = o.length) ∧ Above (psU L) u0I (stI r) ∧ Stable (psU L) (stI r) := by
    refine sweeps_end (fun k s b => gramaryeref10_Least.l1 k s b t l o L) (fun k s b i => gramaryeref10_Least.l2 k s b (i : Int) t l o L) stI (fun v => LOk v ∧ v.length = o.length) (psU L) o.length u0I ?_ ?_ ?_ ?_ ?_ ?_ ?_ _ _ ?_ ?_ (Nat.le_refl _)
    · intro p hp
      obtain ⟨q, _, rfl⟩ := List.mem_map.1 hp
      exact val_mono q.f1
    · intro p hp
      obtain ⟨q, hq, rfl⟩ := List.mem_map.1 hp
      have := hin q hq
      show q.f0.toNat < o.length
      omega
    · intro s r h; exact ev_l1_true t l o L h
    · intro s; exact ev_l1_false t l o L s
    · intro v more i hi r hv himp h
      have hi' : i < L.length := by rwa [psU_length] at hi
      rw [psU_get L i hi' hi] at himp
      obtain ⟨a0, a1, a2⟩ := hin _ (List.getElem_mem hi')
      have hsy : ∀ s ∈ L[i].f1, SymOk v.length s := by rw [hv.2]; exact a2
      have hvl : L[i].f0 < (v.length : Int) := by rw [hv.2]; exact a1
      simp only at himp
      rw [val_is hv.1 _ hsy, show stI v L[i].f0.toNat = keyI (rd v L[i].f0) from by unfold stI; rw [getD_rd v _ a0 hvl], keyI_lt (rowVal_range hv.1 _ hsy) (hv.1 _ (rd_mem v _ a0 hvl))] at himp
      refine pre v more i hi' hv r ?_
      have e : lookU v more L[i] (totU v 0 L[i].f1) = (v, more) := by
        unfold lookU
        rw [tot_row hv.1 _ hsy, if_neg]
        rintro ⟨h1, h2⟩
        exact himp ⟨by omega, by omega⟩
      rw [e]; exact h
    · intro v more i hi hv himp
      have hi' : i < L.length := by rwa [psU_length] at hi
      rw [psU_get L i hi' hi] at himp ⊢
      obtain ⟨a0, a1, a2⟩ := hin _ (List.getElem_mem hi')
      have hsy : ∀ s ∈ L[i].f1, SymOk v.length s := by rw [hv.2]; exact a2
      have hvl : L[i].f0 < (v.length : Int) := by rw [hv.2]; exact a1
      have hrr := rowVal_range hv.1 _ hsy
      simp only at himp ⊢
      rw [val_is hv.1 _ hsy, show stI v L[i].f0.toNat = keyI (rd v L[i].f0) from by unfold stI; rw [getD_rd v _ a0 hvl], keyI_lt hrr (hv.1 _ (rd_mem v _ a0 hvl))] at himp
      refine ⟨v.set L[i].f0.toNat (rowVal v L[i].f1), ⟨hv.1.set _ hrr, by rw [List.length_set]; exact hv.2⟩, ?_, fun r h => ?_⟩
      · rw [stI_set a0 hvl, val_is hv.1 _ hsy]
      · refine pre v more i hi' hv r ?_
        have e : lookU v more L[i] (totU v 0 L[i].f1) = (v.set L[i].f0.toNat (rowVal v L[i].f1), true) := by
          unfold lookU
          rw [tot_row hv.1 _ hsy, if_pos ⟨by omega, by omega⟩]
        rw [e]; exact h
    · intro s more r h
      rw [psU_length]
      exact ev_l2_end t l o L h
    · exact ⟨fun x hx => by rw [List.eq_of_mem_replicate hx]; decide, by simp⟩
    · have e : stI (List.replicate o.length (-1)) = u0I := by
        funext j
        unfold stI u0I
        rw [List.getD_eq_getElem?_getD, List.getElem?_replicate]
        split <;> rfl
      rw [e]; exact Above.init _ _
  obtain ⟨r, h1, h2⟩ := key
  refine ⟨r, ?_, h2⟩
  have h0 := ev_l0 t l o L o.length o.length (by omega) h1 0 (by omega)
  refine Ev.congr (fun k => ?_) h0
  unfold gramaryeref10_Least.f
  rw [if_pos (by omega), if_pos (by omega), Int.toNat_natCast]
  rfl
theorem state_eq {v v' : List Int} (h : LOk v) (h' : LOk v') (hl : v.length = v'.length) (e : ∀ i, stI v i = stI v' i) : v = v' := by
  apply List.ext_getElem hl
  intro i h1 h2
  have := e i
  unfold stI at this
  rw [List.getD_eq_getElem?_getD, List.getD_eq_getElem?_getD, List.getElem?_eq_getElem h1, List.getElem?_eq_getElem h2] at this
  exact keyI_inj (h _ (List.getElem_mem h1)) (h' _ (List.getElem_mem h2)) this
theorem same_ints (l : List Int) (hl : l.length ≤ 1000) (d : Nat) : ∀ (k i : Nat), i + d = l.length → d < k → gramaryebase_SameInts.l0 k l l (i : Int) = some true := by
  induction d with
  | zero =>
    intro k i h1 h2
    obtain ⟨k, rfl⟩ : ∃ m, k = m + 1 := ⟨k - 1, by omega⟩
    rw [gramaryebase_SameInts.l0, if_neg (by omega)]
  | succ d ih =>
    intro k i h1 h2
    obtain ⟨k, rfl⟩ : ∃ m, k = m + 1 := ⟨k - 1, by omega⟩
    rw [gramaryebase_SameInts.l0, if_pos (by omega), if_pos (by omega), if_pos (by omega), if_pos rfl, w1 i (by omega)]
    exact ih k (i + 1) (by omega) (by omega)
theorem same_self (l : List Int) (hl : l.length ≤ 1000) (k : Nat) (hk : 2000 ≤ k) : gramaryebase_SameInts.f k l l = some true := by
  unfold gramaryebase_SameInts.f
  rw [if_pos rfl]
  exact same_ints l hl l.length k 0 (by omega) (by omega)
theorem works_true : gramaryelaw10_works.f 2000 = some true := by decide +kernel
theorem works_is (k : Nat) (hk : 2000 ≤ k) : gramaryelaw10_works.f k = some true := at_rounds (g := fun k => gramaryelaw10_works.f k) (fun k => gramaryelaw10_works.mono k) hk works_true
theorem EmptyLeast : gramaryelaw10_EmptyLeast.PureG := by
  intro t l o L _ _ _ _
  have hs := few_small 40 60 o L
  have hfew : ∀ k, 20000 ≤ k → gramaryeref09_Few.f k t l o L 40 60 = some (t, l, o.take 40, (L.take 60).map cut8) := fun k hk => few_is 40 60 (by omega) (by omega) t l o L k (by omega)
  have hfew2 : ∀ k, 20000 ≤ k → gramaryeref09_Few.f k t l (o.take 40) ((L.take 60).map cut8) 40 60 = some (t, l, o.take 40, (L.take 60).map cut8) := fun k hk => by
    have := few_is 40 60 (by omega) (by omega) t l (o.take 40) ((L.take 60).map cut8) k (by omega)
    rwa [few_again, List.take_take, Nat.min_self] at this
  generalize o.take 40 = o' at hs hfew hfew2
  generalize (L.take 60).map cut8 = L' at hs hfew hfew2
  have hmay := fun k (hk : 20000 ≤ k) => may_is (by omega) (by omega) t l o' L' hs k hk
  by_cases hm : bnf_mayB t l o' L' = 0
  · obtain ⟨v, hv, ⟨v1, v2⟩, va, vs⟩ := least_ok hm hs
    obtain ⟨v', ⟨K, hK⟩, ⟨w1, w2⟩, wa, ws⟩ := ref_least hm hs
    have e : v = v' := state_eq v1 w1 (by rw [v2, w2]) (fun i => unique va vs wa ws i)
    subst e
    refine ⟨K + 20000, ?_⟩
    unfold gramaryelaw10_EmptyLeast.f
    rw [hfew _ (by omega)]
    simp only [Option.bind_some]
    rw [hfew2 _ (by omega)]
    simp only [Option.bind_some]
    rw [hv]
    simp only [Option.bind_some]
    rw [hmay _ (by omega)]
    simp only [Option.bind_some]
    simp only [if_true]
    rw [if_pos hm, show gramaryeref10_Least.f (K + 20000) t l o' L' = some v from hK _ (by omega)]
    simp only [Option.bind_some]
    rw [same_self v (by have := hs.o; omega) _ (by omega)]
    simp only [Option.bind_some, if_true]
    rw [works_is _ (by omega)]
    rfl
  · refine ⟨20000, ?_⟩
    unfold gramaryelaw10_EmptyLeast.f
    rw [hfew _ (by omega)]
    simp only [Option.bind_some]
    rw [hfew2 _ (by omega)]
    simp only [Option.bind_some]
    have hv : empty_Least.f t l o' L' = some ([], bnf_mayB t l o' L') := by unfold empty_Least.f; rw [if_neg hm]
    rw [hv]
    simp only [Option.bind_some]
    rw [hmay _ (by omega)]
    simp only [Option.bind_some]
    simp only [if_true, List.length_nil]
    rw [if_neg hm, if_pos (show ((0 : Nat) : Int) = 0 from rfl), works_is _ (by omega)]
    rfl
end Go.Proofs.Ytmpdilifoblnaaa.Pure
