/- What may be nothing ends, and has least words without tokens, and nothing else has, of any plain rules cut to forty nonterminals and sixty productions. -/
import Derived.Test.YtmpdilifoblnaaaStatEmptyAgree
import Derived.Test.YtmpdilifoblnaaaBase
import Derived.Test.YtmpdilifoblnaaaFix
namespace Go.Proofs.Ytmpdilifoblnaaa.Pure
open Go.RowKit Go.Proofs.Ytmpdilifoblnaaa.MEmptyAgree Go.Proofs.YtmpdilifoblnaaaW.PrintWords Go.Proofs.YtmpdilifoblnaaaW.PrintLast Go.Proofs.YtmpdilifoblnaaaW.PrintMore Go.Proofs.Ytmpdilifoblnaaa.Base Go.Proofs.Ytmpdilifoblnaaa.Fix Go.Proofs.Ytmpdilifoblnaaa.Mem
set_option linter.unusedSimpArgs false
set_option linter.unusedVariables false
/-! rules that are not too great, and whether rules may be -/
theorem rd51 (L : List S51) (i : Nat) (h : i < L.length) : rd_T51 L (i : Int) = L[i] := by
  unfold rd_T51
  rw [Int.toNat_natCast, List.getD_eq_getElem?_getD, List.getElem?_eq_getElem h]; rfl
theorem rd59 (L : List S59) (i : Nat) (h : i < L.length) : rd_T59 L (i : Int) = L[i] := by
  unfold rd_T59
  rw [Int.toNat_natCast, List.getD_eq_getElem?_getD, List.getElem?_eq_getElem h]; rfl
theorem w1 (i : Nat) (h : i < 1000000000) : wrap64 ((i : Int) + 1) = ((i + 1 : Nat) : Int) := by rw [w64 (by omega) (by omega)]; omega
theorem mn_nat (a b : Nat) : mn (a : Int) (b : Int) = ((min a b : Nat) : Int) := by unfold mn; split <;> omega
def cut8 (p : S51) : S51 := ⟨p.f0, p.f1.take 8⟩
theorem few_l0 (P : Nat) (hP : P ≤ 1000) (t l : Int) (o o' : List Int) (L : List S51) (d : Nat) : ∀ (k i : Nat) (acc : List S51), i + d = min P L.length → d < k → acc = (L.take i).map cut8 →
    gramaryeref09_Few.l0 k (P : Int) (i : Int) t l o L t l o' acc = some (t, l, o', (L.take P).map cut8) := by
  induction d with
  | zero =>
    intro k i acc h1 h2 h3
    obtain ⟨k, rfl⟩ : ∃ m, k = m + 1 := ⟨k - 1, by omega⟩
    have e : L.take i = L.take P := by
      rcases Nat.le_total P L.length with h | h
      · rw [show i = P by omega]
      · rw [List.take_of_length_le (by omega), List.take_of_length_le (by omega)]
    rw [gramaryeref09_Few.l0]
    by_cases hi : (i : Int) < (L.length : Int)
    · rw [if_pos hi, if_neg (by omega), h3, e]
    · rw [if_neg hi, h3, e]
  | succ d ih =>
    intro k i acc h1 h2 h3
    obtain ⟨k, rfl⟩ : ∃ m, k = m + 1 := ⟨k - 1, by omega⟩
    have hi : i < L.length := by omega
    have hal : acc.length = i := by rw [h3, List.length_map, List.length_take]; omega
    have hm : mn ((L[i].f1.length : Nat) : Int) 8 = ((min L[i].f1.length 8 : Nat) : Int) := mn_nat _ 8
    have ht : L[i].f1.take (min L[i].f1.length 8) = L[i].f1.take 8 := by
      rcases Nat.le_total L[i].f1.length 8 with h | h
      · rw [Nat.min_eq_left h, List.take_of_length_le (Nat.le_refl _), List.take_of_length_le h]
      · rw [Nat.min_eq_right h]
    rw [gramaryeref09_Few.l0, if_pos (by omega), if_pos (by omega), if_pos (by omega), rd51 L i hi]
    simp only [Option.bind_some]
    rw [hm, if_pos (by omega), if_pos (by omega)]
    simp only [Option.bind_some, Int.toNat_natCast, List.length_nil, List.nil_append]
    have hl8 : (L[i].f1.take (min L[i].f1.length 8)).length ≤ 8 := by rw [List.length_take]; omega
    rw [if_pos (by omega), if_pos (by omega), w1 i (by omega), ht]
    refine ih k (i + 1) _ (by omega) (by omega) ?_
    rw [List.take_succ_eq_append_getElem hi, List.map_append, h3]
    rfl
theorem ints_is (l : List Int) (h : l.length ≤ 1000000) : gramaryebase_Ints.f l = some l := by
  unfold gramaryebase_Ints.f
  simp only [Option.bind_some, List.nil_append]
  rw [if_pos (by simp only [List.length_nil]; omega)]
theorem few_is (N P : Nat) (hN : N ≤ 1000) (hP : P ≤ 1000) (t l : Int) (o : List Int) (L : List S51) (k : Nat) (hk : P < k) :
    gramaryeref09_Few.f k t l o L (N : Int) (P : Int) = some (t, l, o.take N, (L.take P).map cut8) := by
  unfold gramaryeref09_Few.f
  rw [mn_nat, if_pos (by omega), if_pos (by omega)]
  simp only [Int.toNat_natCast]
  have ht : o.take (min o.length N) = o.take N := by
    rcases Nat.le_total o.length N with h | h
    · rw [Nat.min_eq_left h, List.take_of_length_le (Nat.le_refl _), List.take_of_length_le h]
    · rw [Nat.min_eq_right h]
  rw [ht, ints_is _ (by rw [List.length_take]; omega)]
  simp only [Option.bind_some]
  exact few_l0 P hP t l o (o.take N) L (min P L.length) k 0 [] (by omega) (by omega) rfl
theorem cut8_cut8 (p : S51) : cut8 (cut8 p) = cut8 p := by unfold cut8; simp only [List.take_take, Nat.min_self]
theorem few_again (P : Nat) (L : List S51) : (((L.take P).map cut8).take P).map cut8 = (L.take P).map cut8 := by
  rw [List.take_of_length_le (by simp; omega), List.map_map]
  congr 1
  funext p
  exact cut8_cut8 p
/-- Rules that were cut. -/
structure Small (N P : Nat) (o : List Int) (L : List S51) : Prop where
  o : o.length ≤ N
  l : L.length ≤ P
  r : ∀ p ∈ L, p.f1.length ≤ 8
theorem few_small (N P : Nat) (o : List Int) (L : List S51) : Small N P (o.take N) ((L.take P).map cut8) :=
  ⟨by rw [List.length_take]; omega, by simp; omega, fun p hp => by
    obtain ⟨q, _, rfl⟩ := List.mem_map.1 hp
    unfold cut8; simp; omega⟩

/-! the state of least words, as natural numbers: 1000001 is none -/
def keyI (x : Int) : Nat := if x < 0 then 1000001 else x.toNat
def stI (v : List Int) : Nat → Nat := fun i => keyI (v.getD i (-1))
def sumU (u : Nat → Nat) : List S59 → Option Nat
  | [] => some 0
  | s :: l => if s.f0 = true then (sumU u l).map (1 + ·) else if 1000001 ≤ u s.f1.toNat then none else (sumU u l).map (u s.f1.toNat + ·)
def valU (l : List S59) (u : Nat → Nat) : Nat := match sumU u l with
  | none => 1000001
  | some n => min n 1000000
def psU (L : List S51) : List Pr := L.map fun p => (p.f0.toNat, valU p.f1)
theorem psU_length (L : List S51) : (psU L).length = L.length := by simp [psU]
theorem psU_get (L : List S51) (i : Nat) (h : i < L.length) (h' : i < (psU L).length) : (psU L)[i] = (L[i].f0.toNat, valU L[i].f1) := by simp [psU]
theorem keyI_le {x : Int} (h : x ≤ 1000000) : keyI x ≤ 1000001 := by unfold keyI; split <;> omega
theorem keyI_inj {x y : Int} (hx : -1 ≤ x ∧ x ≤ 1000000) (hy : -1 ≤ y ∧ y ≤ 1000000) (h : keyI x = keyI y) : x = y := by
  unfold keyI at h
  split at h <;> split at h <;> omega
theorem keyI_lt {a x : Int} (ha : -1 ≤ a ∧ a ≤ 1000000) (hx : -1 ≤ x ∧ x ≤ 1000000) : keyI a < keyI x ↔ ¬ (a < 0) ∧ ¬ (0 ≤ x ∧ x ≤ a) := by
  unfold keyI
  split <;> split <;> omega
theorem getD_rd (v : List Int) (x : Int) (h0 : 0 ≤ x) (h1 : x < (v.length : Int)) : v.getD x.toNat (-1) = rd v x := by
  unfold rd
  rw [List.getD_eq_getElem?_getD, List.getD_eq_getElem?_getD, List.getElem?_eq_getElem (by omega)]
  rfl
theorem sum_is {v : List Int} (hv : LOk v) : ∀ l : List S59, (∀ s ∈ l, SymOk v.length s) → sumU (stI v) l = (rowSum v l).map Int.toNat
  | [], _ => rfl
  | s :: l, hs => by
    have ih := sum_is hv l (fun q hq => hs q (List.mem_cons_of_mem _ hq))
    have hrg := fun n => rowSum_range hv l n (fun q hq => hs q (List.mem_cons_of_mem _ hq))
    unfold sumU rowSum
    by_cases ht : s.f0 = true
    · rw [if_pos ht, if_pos ht, ih]
      cases h : rowSum v l with
      | none => rfl
      | some n => have := hrg n h; simp only [Option.map_some]; congr 1; omega
    · have hk := hs s List.mem_cons_self (by simpa using ht)
      have hx := hv _ (rd_mem v s.f1 hk.1 hk.2)
      have hst : stI v s.f1.toNat = keyI (rd v s.f1) := by unfold stI; rw [getD_rd v _ hk.1 hk.2]
      rw [if_neg ht, if_neg ht, hst]
      unfold keyI
      by_cases hn : rd v s.f1 < 0
      · rw [if_pos hn, if_pos hn, if_pos (Nat.le_refl _)]; rfl
      · rw [if_neg hn, if_neg hn, if_neg (by omega), ih]
        cases h : rowSum v l with
        | none => rfl
        | some n => have := hrg n h; simp only [Option.map_some]; congr 1; omega
theorem val_is {v : List Int} (hv : LOk v) (l : List S59) (hs : ∀ s ∈ l, SymOk v.length s) : valU l (stI v) = keyI (rowVal v l) := by
  unfold valU rowVal
  rw [sum_is hv l hs]
  cases h : rowSum v l with
  | none => rfl
  | some n =>
    have := rowSum_range hv l n hs h
    show min n.toNat 1000000 = keyI (mn n 1000000)
    unfold keyI mn
    split <;> split <;> omega
theorem sum_mono {u u' : Nat → Nat} (h : ∀ i, u i ≤ u' i) : ∀ l : List S59, (∀ n', sumU u' l = some n' → ∃ n, sumU u l = some n ∧ n ≤ n')
  | [], n', e => ⟨0, rfl, by simp [sumU] at e; omega⟩
  | s :: l, n', e => by
    have ih := sum_mono h l
    unfold sumU at e ⊢
    by_cases ht : s.f0 = true
    · rw [if_pos ht] at e ⊢
      obtain ⟨m, h1, h2⟩ := Option.map_eq_some_iff.1 e
      obtain ⟨n, h3, h4⟩ := ih m h1
      exact ⟨1 + n, by rw [h3]; rfl, by omega⟩
    · rw [if_neg ht] at e ⊢
      have hu := h s.f1.toNat
      by_cases hn : 1000001 ≤ u' s.f1.toNat
      · rw [if_pos hn] at e; exact absurd e (by simp)
      · rw [if_neg hn] at e
        rw [if_neg (by omega)]
        obtain ⟨m, h1, h2⟩ := Option.map_eq_some_iff.1 e
        obtain ⟨n, h3, h4⟩ := ih m h1
        exact ⟨u s.f1.toNat + n, by rw [h3]; rfl, by omega⟩
theorem val_mono (l : List S59) : Mono1 (valU l) := by
  intro u u' h
  unfold valU
  cases e' : sumU u' l with
  | none =>
    show _ ≤ 1000001
    cases sumU u l with
    | none => exact Nat.le_refl _
    | some n => show min n 1000000 ≤ 1000001; omega
  | some n' =>
    obtain ⟨n, e, hn⟩ := sum_mono h l n' e'
    rw [e]
    show min n 1000000 ≤ min n' 1000000
    omega
theorem sum_upd (u : Nat → Nat) (x y : Nat) : ∀ l : List S59, (∀ s ∈ l, s.f0 = false → s.f1.toNat ≠ x) → sumU (upd u x y) l = sumU u l
  | [], _ => rfl
  | s :: l, h => by
    have ih := sum_upd u x y l (fun q hq => h q (List.mem_cons_of_mem _ hq))
    unfold sumU
    by_cases ht : s.f0 = true
    · rw [if_pos ht, if_pos ht, ih]
    · have := h s List.mem_cons_self (by simpa using ht)
      have e : upd u x y s.f1.toNat = u s.f1.toNat := by unfold upd; rw [if_neg this]
      rw [if_neg ht, if_neg ht, e, ih]
/-! whose productions a nonterminal stands in -/
theorem mem_occS {i n m : Int} {l : List S59} : (n, m) ∈ occS i l ↔ m = i ∧ ∃ s ∈ l, s.f0 = false ∧ s.f1 = n := by
  unfold occS
  rw [List.mem_map]
  constructor
  · rintro ⟨s, hs, e⟩
    rw [List.mem_filter] at hs
    simp only [Prod.mk.injEq] at e
    exact ⟨e.2.symm, s, hs.1, by simpa using hs.2, e.1⟩
  · rintro ⟨rfl, s, hs, h0, rfl⟩
    exact ⟨s, List.mem_filter.2 ⟨hs, by simp [h0]⟩, rfl⟩
theorem mem_occ {n m : Int} : ∀ (L : List S51) (i : Int), (n, m) ∈ occ i L ↔ ∃ j : Nat, ∃ h : j < L.length, m = i + j ∧ ∃ s ∈ (L[j]).f1, s.f0 = false ∧ s.f1 = n
  | [], i => by simp [occ]
  | p :: ps, i => by
    simp only [occ, List.mem_append, mem_occS, mem_occ ps (i + 1)]
    constructor
    · rintro (⟨rfl, h⟩ | ⟨j, hj, rfl, h⟩)
      · exact ⟨0, by simp, by omega, h⟩
      · exact ⟨j + 1, by simp; omega, by omega, h⟩
    · rintro ⟨j, hj, rfl, h⟩
      cases j with
      | zero => exact .inl ⟨by omega, h⟩
      | succ j => exact .inr ⟨j, by simp at hj; omega, by omega, h⟩
theorem mem_whoOf {L : List S51} {n m : Int} : m ∈ whoOf (occ 0 L) n ↔ ∃ j : Nat, ∃ h : j < L.length, m = (j : Int) ∧ ∃ s ∈ (L[j]).f1, s.f0 = false ∧ s.f1 = n := by
  unfold whoOf
  rw [List.mem_map]
  constructor
  · rintro ⟨⟨a, b⟩, h, rfl⟩
    rw [List.mem_filter] at h
    have e : a = n := by simpa using h.2
    subst e
    obtain ⟨j, hj, e, hs⟩ := (mem_occ L 0).1 h.1
    exact ⟨j, hj, by simpa using e, hs⟩
  · rintro ⟨j, hj, rfl, hs⟩
    exact ⟨(n, (j : Int)), List.mem_filter.2 ⟨(mem_occ L 0).2 ⟨j, hj, by omega, hs⟩, by simp⟩, rfl⟩
theorem whoOf_len (o : List (Int × Int)) (n : Int) : (whoOf o n).length ≤ o.length := by
  unfold whoOf
  rw [List.length_map]
  exact List.length_filter_le _ _
/-- Rules of which each symbol, and each left side, is one of n. -/
def InN (n : Nat) (L : List S51) : Prop := ∀ p ∈ L, 0 ≤ p.f0 ∧ p.f0 < (n : Int) ∧ ∀ s ∈ p.f1, SymOk n s
theorem may_inN {t l : Int} {o : List Int} {L : List S51} (h : bnf_mayB t l o L = 0) : InN o.length L := fun p hp =>
  ⟨((bnf_may_ok h).2.2.2 p hp).2.1, ((bnf_may_ok h).2.2.2 p hp).2.2.1, ((bnf_may_ok h).2.2.2 p hp).2.2.2⟩
theorem stI_set {v : List Int} {x : Int} {y : Int} (h0 : 0 ≤ x) (h1 : x < (v.length : Int)) : stI (v.set x.toNat y) = upd (stI v) x.toNat (keyI y) := by
  funext j
  unfold stI upd
  rw [List.getD_eq_getElem?_getD, List.getElem?_set]
  by_cases e : x.toNat = j
  · subst e
    rw [if_pos rfl, if_pos (by omega), if_pos rfl]; rfl
  · rw [if_neg e, if_neg (fun h => e h.symm), ← List.getD_eq_getElem?_getD]
def u0I : Nat → Nat := fun _ => 1000001
theorem least_ok {t l : Int} {o : List Int} {L : List S51} (hm : bnf_mayB t l o L = 0) (hs : Small 40 60 o L) :
    ∃ v, empty_Least.f t l o L = some (v, 0) ∧ (LOk v ∧ v.length = o.length) ∧ Above (psU L) u0I (stI v) ∧ Stable (psU L) (stI v) := by
  have hin := may_inN hm
  have hocc : (occ 0 L).length ≤ 500 * L.length := occ_len L 0 (fun p hp => by have := hs.r p hp; omega)
  have hl := hs.l
  have ho := hs.o
  have key : ∃ r, leastG (occ 0 L) L (L.length + o.length * 1000002 * (occ 0 L).length + 1) (List.replicate o.length (-1)) (upTo L.length) = some r ∧ (LOk r ∧ r.length = o.length) ∧ Above (psU L) u0I (stI r) ∧ Stable (psU L) (stI r) := by
    refine work_ends (leastG (occ 0 L) L) stI (fun v => LOk v ∧ v.length = o.length) (psU L) (fun x => whoOf (occ 0 L) (x : Int)) o.length (occ 0 L).length 17592186044416 u0I ?_ ?_ ?_ ?_ ?_ ?_ ?_ _ _ _ ?_ ?_ ?_ ?_ ?_ ?_
    · intro p hp
      obtain ⟨q, _, rfl⟩ := List.mem_map.1 hp
      exact val_mono q.f1
    · intro p hp
      obtain ⟨q, hq, rfl⟩ := List.mem_map.1 hp
      have := hin q hq
      show q.f0.toNat < o.length
      omega
    · intro x
      refine ⟨whoOf_len _ _, fun j hj => ?_⟩
      obtain ⟨j, hj, rfl, _⟩ := mem_whoOf.1 hj
      rw [psU_length]
      omega
    · intro j hj u x y hno
      have hj' : j < L.length := by rwa [psU_length] at hj
      rw [psU_get L j hj' hj]
      show valU _ _ = valU _ _
      unfold valU
      rw [sum_upd u x y L[j].f1 (fun s hs h0 e => hno (mem_whoOf.2 ⟨j, hj', rfl, s, hs, h0, by
        have := (hin _ (List.getElem_mem hj')).2.2 s hs h0
        omega⟩))]
    · intro k s; rfl
    · intro k v i hi rest hv himp
      have hi' : i < L.length := by rwa [psU_length] at hi
      rw [psU_get L i hi' hi] at himp
      obtain ⟨a0, a1, a2⟩ := hin _ (List.getElem_mem hi')
      have hsy : ∀ s ∈ L[i].f1, SymOk v.length s := by rw [hv.2]; exact a2
      have hvl : L[i].f0 < (v.length : Int) := by rw [hv.2]; exact a1
      simp only at himp
      rw [val_is hv.1 _ hsy, show stI v L[i].f0.toNat = keyI (rd v L[i].f0) from by unfold stI; rw [getD_rd v _ a0 hvl], keyI_lt (rowVal_range hv.1 _ hsy) (hv.1 _ (rd_mem v _ a0 hvl))] at himp
      rw [leastG, rd51 L i hi', if_pos ⟨by omega, by omega, a0, hvl⟩]
      by_cases h1 : rowVal v L[i].f1 < 0
      · rw [if_pos h1]
      · rw [if_neg h1, if_pos (by
          rcases Classical.em (0 ≤ rd v L[i].f0 ∧ rd v L[i].f0 ≤ rowVal v L[i].f1) with h | h
          · exact h
          · exact absurd ⟨h1, h⟩ himp)]
    · intro k v i hi rest hv himp hroom
      have hi' : i < L.length := by rwa [psU_length] at hi
      rw [psU_get L i hi' hi] at himp hroom ⊢
      obtain ⟨a0, a1, a2⟩ := hin _ (List.getElem_mem hi')
      have hsy : ∀ s ∈ L[i].f1, SymOk v.length s := by rw [hv.2]; exact a2
      have hvl : L[i].f0 < (v.length : Int) := by rw [hv.2]; exact a1
      have hrr := rowVal_range hv.1 _ hsy
      simp only at himp hroom ⊢
      rw [val_is hv.1 _ hsy, show stI v L[i].f0.toNat = keyI (rd v L[i].f0) from by unfold stI; rw [getD_rd v _ a0 hvl], keyI_lt hrr (hv.1 _ (rd_mem v _ a0 hvl))] at himp
      rw [show ((L[i].f0.toNat : Nat) : Int) = L[i].f0 by omega] at hroom ⊢
      refine ⟨v.set L[i].f0.toNat (rowVal v L[i].f1), ⟨hv.1.set _ hrr, by rw [List.length_set]; exact hv.2⟩, ?_, ?_⟩
      · rw [stI_set a0 hvl, val_is hv.1 _ hsy]
      · rw [leastG, rd51 L i hi', if_pos ⟨by omega, by omega, a0, hvl⟩, if_neg himp.1, if_neg himp.2, if_pos hroom]
    · exact ⟨fun x hx => by rw [List.eq_of_mem_replicate hx]; decide, by simp⟩
    · have e : stI (List.replicate o.length (-1)) = u0I := by
        funext j
        unfold stI u0I
        rw [List.getD_eq_getElem?_getD, List.getElem?_replicate]
        split <;> rfl
      rw [e]; exact Above.init _ _
    · intro j hj
      unfold upTo at hj
      obtain ⟨i, hi, rfl⟩ := List.mem_map.1 hj
      rw [List.mem_range] at hi
      rw [psU_length]
      show 0 ≤ (i : Int) ∧ (i : Int) < _
      omega
    · intro j hj _
      rw [psU_length] at hj
      unfold upTo
      exact List.mem_map.2 ⟨j, List.mem_range.2 hj, rfl⟩
    · rw [upTo_length]
      have h1 := tot_le (u := stI (List.replicate o.length (-1))) (b := 1000001) (fun i => by
        unfold stI
        rw [List.getD_eq_getElem?_getD, List.getElem?_replicate]
        split <;> decide) o.length
      have h2 := Nat.mul_le_mul_right (occ 0 L).length h1
      have h3 := Nat.mul_le_mul_right (occ 0 L).length (Nat.mul_le_mul_left o.length (show 1000001 ≤ 1000002 by omega))
      omega
    · have h3 : o.length * 1000002 * (occ 0 L).length ≤ 40 * 1000002 * 30000 := Nat.mul_le_mul (Nat.mul_le_mul_right _ ho) (by omega)
      omega
  obtain ⟨r, h1, h2⟩ := key
  refine ⟨r, ?_, h2⟩
  unfold empty_Least.f
  rw [if_pos hm, h1]
  rfl
/-! what is marked: 0 is marked, 1 is not -/
def isOf (tok : Bool) (s : S59) (m : List Bool) : Bool := if s.f0 = true then tok else rdOf false m s.f1
theorem is_nothing : isNothing = isOf false := by
  funext s m
  unfold isNothing isOf
  cases s.f0 <;> simp
theorem is_ends : isEnds = isOf true := by
  funext s m
  unfold isEnds isOf
  cases s.f0 <;> simp
def stB (m : List Bool) : Nat → Nat := fun i => if m.getD i false = true then 0 else 1
def okU (tok : Bool) (u : Nat → Nat) (s : S59) : Bool := if s.f0 = true then tok else decide (u s.f1.toNat = 0)
def valB (tok : Bool) (l : List S59) (u : Nat → Nat) : Nat := if l.all (okU tok u) = true then 0 else 1
def psB (tok : Bool) (L : List S51) : List Pr := L.map fun p => (p.f0.toNat, valB tok p.f1)
theorem psB_length (tok : Bool) (L : List S51) : (psB tok L).length = L.length := by simp [psB]
theorem psB_get (tok : Bool) (L : List S51) (i : Nat) (h : i < L.length) (h' : i < (psB tok L).length) : (psB tok L)[i] = (L[i].f0.toNat, valB tok L[i].f1) := by simp [psB]
theorem getD_rdB (m : List Bool) (x : Int) : m.getD x.toNat false = rdOf false m x := rfl
theorem ok_is (tok : Bool) (m : List Bool) (s : S59) : okU tok (stB m) s = isOf tok s m := by
  unfold okU isOf stB
  rw [getD_rdB]
  by_cases h : s.f0 = true
  · rw [if_pos h, if_pos h]
  · rw [if_neg h, if_neg h]
    cases rdOf false m s.f1 <;> rfl
theorem valB_is (tok : Bool) (l : List S59) (m : List Bool) : valB tok l (stB m) = if l.any (fun s => !isOf tok s m) = true then 1 else 0 := by
  unfold valB
  have e : l.all (okU tok (stB m)) = !(l.any fun s => !isOf tok s m) := by
    rw [List.all_eq_not_any_not]
    congr 2
    funext s
    rw [ok_is]
  rw [e]
  cases l.any (fun s => !isOf tok s m) <;> rfl
theorem valB_mono (tok : Bool) (l : List S59) : Mono1 (valB tok l) := by
  intro u u' h
  unfold valB
  by_cases a : l.all (okU tok u') = true
  · rw [if_pos a, if_pos]
    · exact Nat.le_refl _
    rw [List.all_eq_true] at a ⊢
    intro s hs
    have := a s hs
    unfold okU at this ⊢
    by_cases ht : s.f0 = true
    · rw [if_pos ht] at this ⊢; exact this
    · rw [if_neg ht] at this ⊢
      have hu := h s.f1.toNat
      simp only [decide_eq_true_eq] at this ⊢
      omega
  · rw [if_neg a]
    split <;> omega
theorem allB_upd (tok : Bool) (u : Nat → Nat) (x y : Nat) (l : List S59) (h : ∀ s ∈ l, s.f0 = false → s.f1.toNat ≠ x) : l.all (okU tok (upd u x y)) = l.all (okU tok u) := by
  rw [Bool.eq_iff_iff, List.all_eq_true, List.all_eq_true]
  have e : ∀ s ∈ l, okU tok (upd u x y) s = okU tok u s := by
    intro s hs
    unfold okU
    by_cases ht : s.f0 = true
    · rw [if_pos ht, if_pos ht]
    · have := h s hs (by simpa using ht)
      rw [if_neg ht, if_neg ht, show upd u x y s.f1.toNat = u s.f1.toNat by unfold upd; rw [if_neg this]]
  exact ⟨fun a s hs => by rw [← e s hs]; exact a s hs, fun a s hs => by rw [e s hs]; exact a s hs⟩
theorem stB_set {m : List Bool} {x : Int} (h0 : 0 ≤ x) (h1 : x < (m.length : Int)) : stB (m.set x.toNat true) = upd (stB m) x.toNat 0 := by
  funext j
  have g : (m.set x.toNat true).getD j false = if x.toNat = j then true else m.getD j false := by
    rw [List.getD_eq_getElem?_getD, List.getD_eq_getElem?_getD, List.getElem?_set]
    by_cases e : x.toNat = j
    · subst e
      rw [if_pos rfl, if_pos rfl, if_pos (by omega)]; rfl
    · rw [if_neg e, if_neg e]
  show (if (m.set x.toNat true).getD j false = true then 0 else 1) = (if j = x.toNat then 0 else (if m.getD j false = true then 0 else 1))
  rw [g]
  by_cases e : x.toNat = j
  · rw [if_pos e, if_pos rfl, if_pos e.symm]
  · rw [if_neg e, if_neg (show ¬ j = x.toNat from fun h => e h.symm)]
def u0B : Nat → Nat := fun _ => 1
theorem stB_init (n : Nat) : stB (List.replicate n false) = u0B := by
  funext j
  unfold stB u0B
  rw [List.getD_eq_getElem?_getD, List.getElem?_replicate]
  split <;> rfl
theorem impB (tok : Bool) (l : List S59) (m : List Bool) (x : Int) : valB tok l (stB m) < stB m x.toNat ↔ rdOf false m x = false ∧ l.any (fun s => !isOf tok s m) = false := by
  rw [valB_is]
  unfold stB
  rw [getD_rdB]
  cases l.any (fun s => !isOf tok s m) <;> cases rdOf false m x <;> simp
theorem marks_ok (tok : Bool) {t l : Int} {o : List Int} {L : List S51} (hm : bnf_mayB t l o L = 0) (hs : Small 40 60 o L) :
    ∃ m, empty_marksF (isOf tok) t l o L = some (m, 0) ∧ m.length = o.length ∧ Above (psB tok L) u0B (stB m) ∧ Stable (psB tok L) (stB m) := by
  have hin := may_inN hm
  have hocc : (occ 0 L).length ≤ 500 * L.length := occ_len L 0 (fun p hp => by have := hs.r p hp; omega)
  have hl := hs.l
  have ho := hs.o
  have key : ∃ r, growG (isOf tok) (occ 0 L) L (L.length + o.length * (occ 0 L).length + 1) (List.replicate o.length false) (upTo L.length) = some r ∧ r.length = o.length ∧ Above (psB tok L) u0B (stB r) ∧ Stable (psB tok L) (stB r) := by
    refine work_ends (growG (isOf tok) (occ 0 L) L) stB (fun m => m.length = o.length) (psB tok L) (fun x => whoOf (occ 0 L) (x : Int)) o.length (occ 0 L).length 17592186044416 u0B ?_ ?_ ?_ ?_ ?_ ?_ ?_ _ _ _ ?_ ?_ ?_ ?_ ?_ ?_
    · intro p hp
      obtain ⟨q, _, rfl⟩ := List.mem_map.1 hp
      exact valB_mono tok q.f1
    · intro p hp
      obtain ⟨q, hq, rfl⟩ := List.mem_map.1 hp
      have := hin q hq
      show q.f0.toNat < o.length
      omega
    · intro x
      refine ⟨whoOf_len _ _, fun j hj => ?_⟩
      obtain ⟨j, hj, rfl, _⟩ := mem_whoOf.1 hj
      rw [psB_length]
      omega
    · intro j hj u x y hno
      have hj' : j < L.length := by rwa [psB_length] at hj
      rw [psB_get tok L j hj' hj]
      show valB tok _ _ = valB tok _ _
      unfold valB
      rw [allB_upd tok u x y L[j].f1 (fun s hs h0 e => hno (mem_whoOf.2 ⟨j, hj', rfl, s, hs, h0, by
        have := (hin _ (List.getElem_mem hj')).2.2 s hs h0
        omega⟩))]
    · intro k s; rfl
    · intro k m i hi rest hv himp
      have hi' : i < L.length := by rwa [psB_length] at hi
      rw [psB_get tok L i hi' hi] at himp
      obtain ⟨a0, a1, a2⟩ := hin _ (List.getElem_mem hi')
      simp only at himp
      rw [impB] at himp
      rw [growG, rd51 L i hi', if_pos ⟨by omega, by omega, a0, by omega⟩]
      cases h1 : rdOf false m L[i].f0 with
      | true => rw [if_pos rfl]
      | false =>
        rw [if_neg (by decide)]
        cases h2 : L[i].f1.any (fun s => !isOf tok s m) with
        | true => rw [if_pos rfl]
        | false => exact absurd ⟨h1, h2⟩ himp
    · intro k m i hi rest hv himp hroom
      have hi' : i < L.length := by rwa [psB_length] at hi
      rw [psB_get tok L i hi' hi] at himp hroom ⊢
      obtain ⟨a0, a1, a2⟩ := hin _ (List.getElem_mem hi')
      simp only at himp hroom ⊢
      have himp' := himp
      rw [impB] at himp
      rw [show ((L[i].f0.toNat : Nat) : Int) = L[i].f0 by omega] at hroom ⊢
      refine ⟨m.set L[i].f0.toNat true, by rw [List.length_set]; exact hv, ?_, ?_⟩
      · rw [stB_set a0 (by omega), valB_is, himp.2]; rfl
      · rw [growG, rd51 L i hi', if_pos ⟨by omega, by omega, a0, by omega⟩, himp.1, himp.2, if_neg (by decide), if_neg (by decide), if_pos hroom]
    · simp
    · rw [stB_init]; exact Above.init _ _
    · intro j hj
      unfold upTo at hj
      obtain ⟨i, hi, rfl⟩ := List.mem_map.1 hj
      rw [List.mem_range] at hi
      rw [psB_length]
      show 0 ≤ (i : Int) ∧ (i : Int) < _
      omega
    · intro j hj _
      rw [psB_length] at hj
      unfold upTo
      exact List.mem_map.2 ⟨j, List.mem_range.2 hj, rfl⟩
    · rw [upTo_length, stB_init]
      have h1 := tot_le (u := u0B) (b := 1) (fun i => Nat.le_refl _) o.length
      have h2 := Nat.mul_le_mul_right (occ 0 L).length h1
      rw [Nat.mul_one] at h2
      omega
    · have h3 : o.length * (occ 0 L).length ≤ 40 * 30000 := Nat.mul_le_mul ho (by omega)
      omega
  obtain ⟨r, h1, h2⟩ := key
  refine ⟨r, ?_, h2⟩
  unfold empty_marksF
  rw [if_pos hm, h1]
  rfl
theorem stateB_eq {v v' : List Bool} (hl : v.length = v'.length) (e : ∀ i, stB v i = stB v' i) : v = v' := by
  apply List.ext_getElem hl
  intro i h1 h2
  have := e i
  unfold stB at this
  rw [List.getD_eq_getElem?_getD, List.getD_eq_getElem?_getD, List.getElem?_eq_getElem h1, List.getElem?_eq_getElem h2] at this
  simp only [Option.getD_some] at this
  cases h3 : v[i] <;> cases h4 : v'[i] <;> simp [h3, h4] at this ⊢
/-! nothing, ends and least words agree -/
theorem sum_pos {u : Nat → Nat} : ∀ {l : List S59} {n : Nat}, sumU u l = some n → (∃ s ∈ l, s.f0 = true ∨ (s.f0 = false ∧ 0 < u s.f1.toNat)) → 0 < n
  | [], n, h, ⟨s, hs, _⟩ => absurd hs (by simp)
  | q :: l, n, h, ⟨s, hs, hp⟩ => by
    unfold sumU at h
    by_cases ht : q.f0 = true
    · rw [if_pos ht] at h
      obtain ⟨m, h1, h2⟩ := Option.map_eq_some_iff.1 h
      omega
    · rw [if_neg ht] at h
      by_cases hn : 1000001 ≤ u q.f1.toNat
      · rw [if_pos hn] at h; exact absurd h (by simp)
      · rw [if_neg hn] at h
        obtain ⟨m, h1, h2⟩ := Option.map_eq_some_iff.1 h
        rcases List.mem_cons.1 hs with rfl | hs
        · rcases hp with hp | hp
          · exact absurd hp ht
          · omega
        · have := sum_pos h1 ⟨s, hs, hp⟩
          omega
theorem sum_zero {u : Nat → Nat} : ∀ {l : List S59}, (∀ s ∈ l, s.f0 = false ∧ u s.f1.toNat = 0) → sumU u l = some 0
  | [], _ => rfl
  | q :: l, h => by
    have h1 := h q List.mem_cons_self
    unfold sumU
    rw [if_neg (by rw [h1.1]; decide), if_neg (by omega), sum_zero (fun s hs => h s (List.mem_cons_of_mem _ hs)), h1.2]
    rfl
theorem sum_some {u : Nat → Nat} : ∀ {l : List S59}, (∀ s ∈ l, s.f0 = true ∨ u s.f1.toNat ≤ 1000000) → ∃ n, sumU u l = some n
  | [], _ => ⟨0, rfl⟩
  | q :: l, h => by
    obtain ⟨n, hn⟩ := sum_some (l := l) (fun s hs => h s (List.mem_cons_of_mem _ hs))
    unfold sumU
    by_cases ht : q.f0 = true
    · rw [if_pos ht, hn]; exact ⟨_, rfl⟩
    · have h1 := (h q List.mem_cons_self).resolve_left ht
      rw [if_neg ht, if_neg (by omega), hn]; exact ⟨_, rfl⟩
theorem sum_none {u : Nat → Nat} : ∀ {l : List S59} {s : S59}, s ∈ l → s.f0 = false → 1000001 ≤ u s.f1.toNat → sumU u l = none
  | q :: l, s, hs, h0, h1 => by
    unfold sumU
    rcases List.mem_cons.1 hs with rfl | hs
    · rw [if_neg (by rw [h0]; decide), if_pos h1]
    · have ih := sum_none hs h0 h1
      by_cases ht : q.f0 = true
      · rw [if_pos ht, ih]; rfl
      · rw [if_neg ht]
        by_cases hn : 1000001 ≤ u q.f1.toNat
        · rw [if_pos hn]
        · rw [if_neg hn, ih]; rfl
theorem ends_agree {L : List S51} {y z : Nat → Nat} (hy1 : ∀ i, y i ≤ 1) (hz1 : ∀ i, z i ≤ 1000001) (ya : Above (psB true L) u0B y) (ys : Stable (psB true L) y) (za : Above (psU L) u0I z) (zs : Stable (psU L) z) (i : Nat) : y i = 0 ↔ z i ≤ 1000000 := by
  constructor
  · -- what has least words ends: one is stable in y's rules
    intro h
    have hst : Stable (psB true L) (fun i => if z i ≤ 1000000 then 0 else 1) := by
      intro p hp
      obtain ⟨q, hq, rfl⟩ := List.mem_map.1 hp
      show (if z q.f0.toNat ≤ 1000000 then 0 else 1) ≤ valB true q.f1 _
      unfold valB
      by_cases a : q.f1.all (okU true (fun i => if z i ≤ 1000000 then 0 else 1)) = true
      · rw [if_pos a]
        have hz := zs _ (List.mem_map.2 ⟨q, hq, rfl⟩)
        simp only at hz
        obtain ⟨n, hn⟩ := sum_some (u := z) (l := q.f1) (fun s hs => by
          have := (List.all_eq_true.1 a) s hs
          unfold okU at this
          by_cases ht : s.f0 = true
          · exact .inl ht
          · rw [if_neg ht] at this
            refine .inr ?_
            by_cases hb : z s.f1.toNat ≤ 1000000
            · exact hb
            · simp [hb] at this)
        unfold valU at hz
        rw [hn] at hz
        have hz' : z q.f0.toNat ≤ min n 1000000 := hz
        rw [if_pos (by omega)]
        exact Nat.le_refl _
      · rw [if_neg a]; split <;> omega
    have := ya.2 _ (fun i => by show (if z i ≤ 1000000 then 0 else 1) ≤ 1; split <;> omega) hst i
    rw [h] at this
    by_cases hb : z i ≤ 1000000
    · exact hb
    · rw [if_neg hb] at this; omega
  · intro h
    have hst : Stable (psU L) (fun i => if y i = 0 then 0 else 1000001) := by
      intro p hp
      obtain ⟨q, hq, rfl⟩ := List.mem_map.1 hp
      show (if y q.f0.toNat = 0 then 0 else 1000001) ≤ valU q.f1 _
      by_cases hy : y q.f0.toNat = 0
      · rw [if_pos hy]; exact Nat.zero_le _
      · rw [if_neg hy]
        have hy' := ys _ (List.mem_map.2 ⟨q, hq, rfl⟩)
        simp only at hy'
        unfold valB at hy'
        have hna : ¬ q.f1.all (okU true y) = true := by
          intro a
          rw [if_pos a] at hy'
          omega
        rw [List.all_eq_true] at hna
        have hex : ∃ s ∈ q.f1, ¬ okU true y s = true := Classical.byContradiction fun hc => hna fun s hs => Classical.byContradiction fun h => hc ⟨s, hs, h⟩
        obtain ⟨s, hs, hok⟩ := hex
        unfold okU at hok
        by_cases ht : s.f0 = true
        · rw [if_pos ht] at hok; exact absurd rfl hok
        · rw [if_neg ht] at hok
          have h0 : ¬ y s.f1.toNat = 0 := by simpa using hok
          unfold valU
          rw [sum_none hs (by simpa using ht) (by show 1000001 ≤ (if y s.f1.toNat = 0 then 0 else 1000001); rw [if_neg h0]; exact Nat.le_refl _)]
          exact Nat.le_refl _
    have := za.2 _ (fun i => by show (if y i = 0 then 0 else 1000001) ≤ 1000001; split <;> omega) hst i
    by_cases hb : y i = 0
    · exact hb
    · rw [if_neg hb] at this; omega
theorem nothing_agree {L : List S51} {x z : Nat → Nat} (xa : Above (psB false L) u0B x) (xs : Stable (psB false L) x) (za : Above (psU L) u0I z) (zs : Stable (psU L) z) (i : Nat) : x i = 0 ↔ z i = 0 := by
  constructor
  · intro h
    have hst : Stable (psB false L) (fun i => if z i = 0 then 0 else 1) := by
      intro p hp
      obtain ⟨q, hq, rfl⟩ := List.mem_map.1 hp
      show (if z q.f0.toNat = 0 then 0 else 1) ≤ valB false q.f1 _
      unfold valB
      by_cases a : q.f1.all (okU false (fun i => if z i = 0 then 0 else 1)) = true
      · rw [if_pos a]
        have hz := zs _ (List.mem_map.2 ⟨q, hq, rfl⟩)
        simp only at hz
        have h0 := sum_zero (u := z) (l := q.f1) (fun s hs => by
          have := (List.all_eq_true.1 a) s hs
          unfold okU at this
          by_cases ht : s.f0 = true
          · rw [if_pos ht] at this; exact absurd this (by decide)
          · rw [if_neg ht] at this
            refine ⟨by simpa using ht, ?_⟩
            by_cases hb : z s.f1.toNat = 0
            · exact hb
            · simp [hb] at this)
        unfold valU at hz
        rw [h0] at hz
        have hz' : z q.f0.toNat ≤ min 0 1000000 := hz
        rw [if_pos (by omega)]
        exact Nat.le_refl _
      · rw [if_neg a]; split <;> omega
    have := xa.2 _ (fun i => by show (if z i = 0 then 0 else 1) ≤ 1; split <;> omega) hst i
    rw [h] at this
    by_cases hb : z i = 0
    · exact hb
    · rw [if_neg hb] at this; omega
  · intro h
    have hst : Stable (psU L) (fun i => if x i = 0 then 0 else 1) := by
      intro p hp
      obtain ⟨q, hq, rfl⟩ := List.mem_map.1 hp
      show (if x q.f0.toNat = 0 then 0 else 1) ≤ valU q.f1 _
      by_cases hx : x q.f0.toNat = 0
      · rw [if_pos hx]; exact Nat.zero_le _
      · rw [if_neg hx]
        have hx' := xs _ (List.mem_map.2 ⟨q, hq, rfl⟩)
        simp only at hx'
        unfold valB at hx'
        have hna : ¬ q.f1.all (okU false x) = true := by
          intro a
          rw [if_pos a] at hx'
          omega
        rw [List.all_eq_true] at hna
        have hex : ∃ s ∈ q.f1, ¬ okU false x s = true := Classical.byContradiction fun hc => hna fun s hs => Classical.byContradiction fun h => hc ⟨s, hs, h⟩
        obtain ⟨s, hs, hok⟩ := hex
        unfold valU
        cases e : sumU (fun i => if x i = 0 then 0 else 1) q.f1 with
        | none => show 1 ≤ 1000001; omega
        | some n =>
          have hpos := sum_pos e ⟨s, hs, by
            unfold okU at hok
            by_cases ht : s.f0 = true
            · exact .inl ht
            · rw [if_neg ht] at hok
              have h0 : ¬ x s.f1.toNat = 0 := by simpa using hok
              refine .inr ⟨by simpa using ht, ?_⟩
              show 0 < (if x s.f1.toNat = 0 then 0 else 1)
              rw [if_neg h0]; omega⟩
          show 1 ≤ min n 1000000
          omega
    have := za.2 _ (fun i => by show (if x i = 0 then 0 else 1) ≤ 1000001; split <;> omega) hst i
    by_cases hb : x i = 0
    · exact hb
    · rw [if_neg hb] at this; omega
theorem leastG_more (who : List (Int × Int)) (L : List S51) : ∀ (k : Nat) (v l : List Int), LeO (leastG who L k v l) (leastG who L (k + 1) v l)
  | 0, _, _ => LeO.none _
  | k + 1, v, [] => LeO.refl _
  | k + 1, v, i :: rest => by
    have ih := leastG_more who L k
    unfold leastG
    exact LeO.ite (LeO.ite (ih _ _) (LeO.ite (ih _ _) (LeO.ite (ih _ _) (LeO.none _)))) (LeO.none _)
def sampleL : List S51 := [⟨0, [⟨true, 1⟩, ⟨false, 0⟩]⟩, ⟨0, []⟩]
theorem sample_is : gramaryelaw10_sample.f = some (1, 1, [-1], sampleL) := rfl
theorem least_sample : empty_Least.f 1 1 [-1] sampleL = some ([0], 0) := by
  have h1 : leastG (occ 0 sampleL) sampleL 10 [-1] (upTo 2) = some [0] := by decide +kernel
  have ho : (occ 0 sampleL).length = 1 := by decide +kernel
  have h2 := at_rounds (g := fun k => leastG (occ 0 sampleL) sampleL k [-1] (upTo 2)) (fun k => leastG_more _ _ k _ _) (k' := 2 + 1 * 1000002 * (occ 0 sampleL).length + 1) (by rw [ho]; omega) h1
  unfold empty_Least.f
  rw [if_pos (by decide +kernel)]
  show (leastG (occ 0 sampleL) sampleL (2 + 1 * 1000002 * (occ 0 sampleL).length + 1) [-1] (upTo 2)).map _ = _
  rw [show leastG (occ 0 sampleL) sampleL (2 + 1 * 1000002 * (occ 0 sampleL).length + 1) [-1] (upTo 2) = some [0] from h2]
  rfl
theorem nothing_sample : empty_Nothing.f 1 1 [-1] sampleL = some ([true], 0) := by decide +kernel
theorem works_true : gramaryelaw10_works.f 20 = some true := by
  unfold gramaryelaw10_works.f
  rw [sample_is]
  simp only [Option.bind_some]
  rw [nothing_sample, least_sample]
  decide +kernel
theorem works_is (k : Nat) (hk : 2000 ≤ k) : gramaryelaw10_works.f k = some true := at_rounds (g := fun k => gramaryelaw10_works.f k) (fun k => gramaryelaw10_works.mono k) (Nat.le_trans (by decide) hk) works_true
theorem agree_l0 (x y : List Bool) (z : List Int) (t l : Int) (o : List Int) (L : List S51) (n : Nat) (hn : n ≤ 1000) (hx : x.length = n) (hy : y.length = n) (hz : z.length = n) (ho : o.length = n)
    (h1 : ∀ i : Nat, i < n → rdOf false x (i : Int) = (rd z (i : Int) == 0)) (h2 : ∀ i : Nat, i < n → rdOf false y (i : Int) = decide (rd z (i : Int) ≥ 0)) (d : Nat) :
    ∀ (k i : Nat), i + d = n → 2 * d + 1 < k → gramaryelaw10_EmptyAgree.l0 k x y z (i : Int) t l o L = some true := by
  induction d with
  | zero =>
    intro k i hi hk
    obtain ⟨k, rfl⟩ : ∃ m, k = m + 2 := ⟨k - 2, by omega⟩
    rw [gramaryelaw10_EmptyAgree.l0, if_neg (by omega), gramaryelaw10_EmptyAgree.j2, if_neg (by decide), if_pos (by omega), if_pos (by omega), hz, hx]
    simp
  | succ d ih =>
    intro k i hi hk
    obtain ⟨k, rfl⟩ : ∃ m, k = m + 2 := ⟨k - 2, by omega⟩
    have a1 := h1 i (by omega)
    have a2 := h2 i (by omega)
    rw [gramaryelaw10_EmptyAgree.l0, if_pos (by omega), if_pos (by omega), decide_eq_true (show (i : Int) < (z.length : Int) by omega), gramaryelaw10_EmptyAgree.j2, if_pos rfl, if_pos (by omega), if_pos (by omega), if_pos (by omega), a1, bne_self_eq_false, if_neg (by decide), if_pos (by omega), a2, bne_self_eq_false, if_neg (by decide), w1 i (by omega)]
    exact ih k (i + 1) (by omega) (by omega)
theorem EmptyAgree : gramaryelaw10_EmptyAgree.PureG := by
  intro t l o L _ _ _ _
  have hs := few_small 40 60 o L
  have hfew : ∀ k, 20000 ≤ k → gramaryeref09_Few.f k t l o L 40 60 = some (t, l, o.take 40, (L.take 60).map cut8) := fun k hk => few_is 40 60 (by omega) (by omega) t l o L k (by omega)
  generalize o.take 40 = o' at hs hfew
  generalize (L.take 60).map cut8 = L' at hs hfew
  obtain ⟨K, hK⟩ : ∃ K, K = 19999 := ⟨_, rfl⟩
  refine ⟨K + 1, ?_⟩
  unfold gramaryelaw10_EmptyAgree.f
  rw [works_is _ (by omega)]
  simp only [Option.bind_some, if_true]
  rw [hfew _ (by omega)]
  simp only [Option.bind_some]
  by_cases hm : bnf_mayB t l o' L' = 0
  · obtain ⟨x, hx, x2, xa, xs⟩ := marks_ok false hm hs
    obtain ⟨y, hy, y2, ya, ys⟩ := marks_ok true hm hs
    obtain ⟨z, hz, ⟨z1, z2⟩, za, zs⟩ := least_ok hm hs
    rw [show empty_Nothing.f t l o' L' = some (x, 0) by unfold empty_Nothing.f; rw [is_nothing]; exact hx]
    simp only [Option.bind_some]
    rw [show empty_Ends.f t l o' L' = some (y, 0) by unfold empty_Ends.f; rw [is_ends]; exact hy]
    simp only [Option.bind_some]
    rw [hz]
    simp only [Option.bind_some, if_true]
    rw [show ((0 : Int) != 0) = false from rfl, gramaryelaw10_EmptyAgree.j0, if_neg (by decide)]
    have ho := hs.o
    have hzi : ∀ i : Nat, i < o'.length → stI z i = keyI (rd z (i : Int)) ∧ -1 ≤ rd z (i : Int) ∧ rd z (i : Int) ≤ 1000000 := fun i hi => by
      have e : stI z i = keyI (rd z (i : Int)) := by
        unfold stI
        rw [← getD_rd z (i : Int) (by omega) (by omega), Int.toNat_natCast]
      have := z1 _ (rd_mem z (i : Int) (by omega) (by omega))
      exact ⟨e, this.1, this.2⟩
    have hbi : ∀ (m : List Bool) (i : Nat), stB m i = 0 ↔ rdOf false m (i : Int) = true := fun m i => by
      unfold stB
      rw [show m.getD i false = rdOf false m (i : Int) by unfold rdOf; rw [Int.toNat_natCast]]
      cases rdOf false m (i : Int) <;> simp
    refine agree_l0 x y z t l o' L' o'.length (by omega) x2 y2 z2 rfl (fun i hi => ?_) (fun i hi => ?_) o'.length K 0 (by omega) (by omega)
    · obtain ⟨e, r1, r2⟩ := hzi i hi
      have := nothing_agree xa xs za zs i
      rw [hbi, e] at this
      rw [Bool.eq_iff_iff, this]
      unfold keyI
      simp only [beq_iff_eq]
      split <;> omega
    · obtain ⟨e, r1, r2⟩ := hzi i hi
      have := ends_agree (y := stB y) (z := stI z) (fun i => by unfold stB; split <;> omega) (fun i => by
        unfold stI
        by_cases hi : i < z.length
        · rw [List.getD_eq_getElem?_getD, List.getElem?_eq_getElem hi]
          exact keyI_le (z1 _ (List.getElem_mem hi)).2
        · rw [List.getD_eq_getElem?_getD, List.getElem?_eq_none (by omega)]
          decide) ya ys za zs i
      rw [hbi, e] at this
      rw [Bool.eq_iff_iff, this]
      unfold keyI
      simp only [decide_eq_true_eq]
      split <;> omega
  · have e1 : ∀ is, empty_marksF is t l o' L' = some ([], bnf_mayB t l o' L') := fun is => by unfold empty_marksF; rw [if_neg hm]
    rw [show empty_Nothing.f t l o' L' = some ([], bnf_mayB t l o' L') from e1 _]
    simp only [Option.bind_some]
    rw [show empty_Ends.f t l o' L' = some ([], bnf_mayB t l o' L') from e1 _]
    simp only [Option.bind_some]
    rw [show empty_Least.f t l o' L' = some ([], bnf_mayB t l o' L') by unfold empty_Least.f; rw [if_neg hm]]
    simp only [Option.bind_some]
    rw [if_neg hm, gramaryelaw10_EmptyAgree.j0, if_pos rfl, if_pos rfl]
    simp
end Go.Proofs.Ytmpdilifoblnaaa.Pure
