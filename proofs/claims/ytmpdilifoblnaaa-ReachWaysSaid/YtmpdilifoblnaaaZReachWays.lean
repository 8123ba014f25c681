/-  -/
import Derived.WalkKit
import Derived.ProofKit
import Derived.OpenShut
import Derived.ShutString
import Derived.ChangeOld
import Derived.Below
import Derived.SizedLaws
import Derived.Carry
import Derived.Test.YtmpdilifoblnaaaZReachWaysx3
import Derived.Test.YtmpdilifoblnaaaZReachWaysBase
import Derived.Test.YtmpdilifoblnaaaZReachWaysFix
section
namespace Go.Proofs.Ytmpdilifoblnaaa.Pure
open Go.RowKit Go.Proofs.Ytmpdilifoblnaaa.MReachWays Go.Proofs.YtmpdilifoblnaaaW.PrintWords Go.Proofs.YtmpdilifoblnaaaW.PrintLast Go.Proofs.YtmpdilifoblnaaaW.PrintMore Go.Proofs.Ytmpdilifoblnaaa.Base Go.Proofs.Ytmpdilifoblnaaa.Fix Go.Proofs.Ytmpdilifoblnaaa.Mem
set_option linter.unusedSimpArgs false
set_option linter.unusedVariables false
theorem rd51 (L : List S51) (i : Nat) (h : i < L.length) : rd_T51 L (i : Int) = L[i] := by
  unfold rd_T51
  rw [Int.toNat_natCast, List.getD_eq_getElem?_getD, List.getElem?_eq_getElem h]; rfl
theorem rd59 (L : List S59) (i : Nat) (h : i < L.length) : rd_T59 L (i : Int) = L[i] := by
  unfold rd_T59
  rw [Int.toNat_natCast, List.getD_eq_getElem?_getD, List.getElem?_eq_getElem h]; rfl
theorem w1 (i : Nat) (h : i < 1000000000) : wrap64 ((i : Int) + 1) = ((i + 1 : Nat) : Int) := by rw [w64 (by omega) (by omega)]; omega
theorem mn_nat (a b : Nat) : mn (a : Int) (b : Int) = ((min a b : Nat) : Int) := by unfold mn; split <;> omega
def cut8 (p : S51) : S51 := ⟨p.f0, p.f1.take 8⟩
theorem few_l0 (P : Nat) (hP : P ≤ 1000) (t l : Int) (o o' : List Int) (L : List S51) (d : Nat) : ∀ (k i : Nat) (acc : List S51), i + d = min P L.length → d < k → acc = (L.take i).map cut8 →
    gramaryeref09_Few.l0 k (P : Int) (i : Int) t l o L t l o' acc = some (t, l, o', (L.take P).map cut8) := by
  induction d with
  | zero =>
    intro k i acc h1 h2 h3
    obtain ⟨k, rfl⟩ : ∃ m, k = m + 1 := ⟨k - 1, by omega⟩
    have e : L.take i = L.take P := by
      rcases Nat.le_total P L.length with h | h
      · rw [show i = P by omega]
      · rw [List.take_of_length_le (by omega), List.take_of_length_le (by omega)]
    rw [gramaryeref09_Few.l0]
    by_cases hi : (i : Int) < (L.length : Int)
    · rw [if_pos hi, if_neg (by omega), h3, e]
    · rw [if_neg hi, h3, e]
  | succ d ih =>
    intro k i acc h1 h2 h3
    obtain ⟨k, rfl⟩ : ∃ m, k = m + 1 := ⟨k - 1, by omega⟩
    have hi : i < L.length := by omega
    have hal : acc.length = i := by rw [h3, List.length_map, List.length_take]; omega
    have hm : mn ((L[i].f1.length : Nat) : Int) 8 = ((min L[i].f1.length 8 : Nat) : Int) := mn_nat _ 8
    have ht : L[i].f1.take (min L[i].f1.length 8) = L[i].f1.take 8 := by
      rcases Nat.le_total L[i].f1.length 8 with h | h
      · rw [Nat.min_eq_left h, List.take_of_length_le (Nat.le_refl _), List.take_of_length_le h]
      · rw [Nat.min_eq_right h]
    rw [gramaryeref09_Few.l0, if_pos (by omega), if_pos (by omega), if_pos (by omega), rd51 L i hi]
    simp only [Option.bind_some]
    rw [hm, if_pos (by omega), if_pos (by omega)]
    simp only [Option.bind_some, Int.toNat_natCast, List.length_nil, List.nil_append]
    have hl8 : (L[i].f1.take (min L[i].f1.length 8)).length ≤ 8 := by rw [List.length_take]; omega
    rw [if_pos (by omega), if_pos (by omega), w1 i (by omega), ht]
    refine ih k (i + 1) _ (by omega) (by omega) ?_
    rw [List.take_succ_eq_append_getElem hi, List.map_append, h3]
    rfl
theorem ints_is (l : List Int) (h : l.length ≤ 1000000) : gramaryebase_Ints.f l = some l := by
  unfold gramaryebase_Ints.f
  simp only [Option.bind_some, List.nil_append]
  rw [if_pos (by simp only [List.length_nil]; omega)]
theorem few_is (N P : Nat) (hN : N ≤ 1000) (hP : P ≤ 1000) (t l : Int) (o : List Int) (L : List S51) (k : Nat) (hk : P < k) :
    gramaryeref09_Few.f k t l o L (N : Int) (P : Int) = some (t, l, o.take N, (L.take P).map cut8) := by
  unfold gramaryeref09_Few.f
  rw [mn_nat, if_pos (by omega), if_pos (by omega)]
  simp only [Int.toNat_natCast]
  have ht : o.take (min o.length N) = o.take N := by
    rcases Nat.le_total o.length N with h | h
    · rw [Nat.min_eq_left h, List.take_of_length_le (Nat.le_refl _), List.take_of_length_le h]
    · rw [Nat.min_eq_right h]
  rw [ht, ints_is _ (by rw [List.length_take]; omega)]
  simp only [Option.bind_some]
  exact few_l0 P hP t l o (o.take N) L (min P L.length) k 0 [] (by omega) (by omega) rfl
theorem cut8_cut8 (p : S51) : cut8 (cut8 p) = cut8 p := by unfold cut8; simp only [List.take_take, Nat.min_self]
theorem few_again (P : Nat) (L : List S51) : (((L.take P).map cut8).take P).map cut8 = (L.take P).map cut8 := by
  rw [List.take_of_length_le (by simp; omega), List.map_map]
  congr 1
  funext p
  exact cut8_cut8 p
structure Small (N P : Nat) (o : List Int) (L : List S51) : Prop where
  o : o.length ≤ N
  l : L.length ≤ P
  r : ∀ p ∈ L, p.f1.length ≤ 8
theorem few_small (N P : Nat) (o : List Int) (L : List S51) : Small N P (o.take N) ((L.take P).map cut8) :=
  ⟨by rw [List.length_take]; omega, by simp; omega, fun p hp => by
    obtain ⟨q, _, rfl⟩ := List.mem_map.1 hp
    unfold cut8; simp; omega⟩
theorem may_l2 (t l : Int) (o : List Int) (L : List S51) (pos : Int) (x0 : Int) (r : List S59) (hr : r.length ≤ 1000) (d : Nat) : ∀ (k i : Nat), i + d = r.length →
    gramaryeref09_May.l2 (k + d + 1) pos (i : Int) t l o L x0 r = if (r.drop i).any (fun s => !bnf_symB t o.length s) = true then some 4 else gramaryeref09_May.l1 k (wrap64 (pos + 1)) t l o L := by
  induction d with
  | zero =>
    intro k i h1
    rw [gramaryeref09_May.l2, if_neg (by omega), List.drop_of_length_le (by omega)]
    rfl
  | succ d ih =>
    intro k i h1
    have hi : i < r.length := by omega
    have hs := rd59 r i hi
    have ih' := ih k (i + 1) (by omega)
    rw [show k + (d + 1) + 1 = (k + d + 1) + 1 by omega, gramaryeref09_May.l2, if_pos (by omega), if_pos (by omega), hs, w1 i (by omega), ih', List.drop_eq_getElem_cons hi, List.any_cons]
    generalize (List.drop (i + 1) r).any (fun s => !bnf_symB t o.length s) = q
    obtain ⟨tok, x⟩ := r[i]
    unfold bnf_symB
    cases tok with
    | true =>
      simp only [if_true]
      by_cases h1 : x < 1
      · rw [if_pos h1, decide_eq_false (by omega)]; simp
      · rw [if_neg h1]
        by_cases h2 : x > t
        · rw [if_pos h2, decide_eq_false (by omega)]; simp
        · rw [if_neg h2, decide_eq_true (by omega)]; simp
    | false =>
      simp only [Bool.false_eq_true, if_false]
      by_cases h1 : x < 0
      · rw [if_pos h1, decide_eq_false (by omega)]; simp
      · rw [if_neg h1]
        by_cases h2 : x ≥ (o.length : Int)
        · rw [if_pos h2, decide_eq_false (by omega)]; simp
        · rw [if_neg h2, decide_eq_true (by omega)]; simp
theorem may_l1 (t l : Int) (o : List Int) (L : List S51) (hL : L.length ≤ 1000) (hr : ∀ p ∈ L, p.f1.length ≤ 8) (d : Nat) : ∀ (k i : Nat), i + d = L.length → 12 * d < k →
    gramaryeref09_May.l1 k (i : Int) t l o L = some (if (L.drop i).any (fun p => !bnf_prodB t o.length p) = true then 4 else 0) := by
  induction d with
  | zero =>
    intro k i h1 h2
    obtain ⟨k, rfl⟩ : ∃ m, k = m + 1 := ⟨k - 1, by omega⟩
    rw [gramaryeref09_May.l1, if_neg (by omega), List.drop_of_length_le (by omega)]
    rfl
  | succ d ih =>
    intro k i h1 h2
    have hi : i < L.length := by omega
    have hp8 := hr L[i] (List.getElem_mem hi)
    obtain ⟨k, rfl⟩ : ∃ m, k = m + L[i].f1.length + 1 + 2 := ⟨k - (L[i].f1.length + 3), by omega⟩
    rw [gramaryeref09_May.l1, if_pos (by omega), if_pos (by omega), rd51 L i hi, List.drop_eq_getElem_cons hi, List.any_cons]
    have hl2 := may_l2 t l o L (i : Int) L[i].f0 L[i].f1 (by omega) L[i].f1.length k 0 (by omega)
    rw [w1 i (by omega), ih k (i + 1) (by omega) (by omega), List.drop_zero, show ((0 : Nat) : Int) = 0 from rfl] at hl2
    by_cases h0 : L[i].f0 < 0
    · have e : bnf_prodB t o.length L[i] = false := by unfold bnf_prodB; rw [decide_eq_false (by omega)]; rfl
      rw [if_pos h0, gramaryeref09_May.j4, if_pos rfl, e]; rfl
    · rw [if_neg h0, gramaryeref09_May.j4]
      by_cases h3 : L[i].f0 ≥ (o.length : Int)
      · have e : bnf_prodB t o.length L[i] = false := by unfold bnf_prodB; rw [decide_eq_false (show ¬ L[i].f0 < (o.length : Int) by omega)]; simp
        rw [if_pos (decide_eq_true h3), e]; rfl
      · have e : bnf_prodB t o.length L[i] = !(L[i].f1.any (fun s => !bnf_symB t o.length s)) := by
          unfold bnf_prodB
          rw [decide_eq_true (show 0 ≤ L[i].f0 by omega), decide_eq_true (show L[i].f0 < (o.length : Int) by omega), Bool.true_and, Bool.true_and]
        rw [if_neg (by simpa using h3), hl2, e]
        cases hq : L[i].f1.any (fun s => !bnf_symB t o.length s)
        · rfl
        · rfl
theorem may_l0 (t l : Int) (o : List Int) (L : List S51) (hL : L.length ≤ 1000) (hr : ∀ p ∈ L, p.f1.length ≤ 8) (d : Nat) : ∀ (k i : Nat), i + d = L.length → d + 12 * L.length + 3 < k →
    gramaryeref09_May.l0 k (i : Int) t l o L = some (if ¬ (1 ≤ l ∧ l ≤ 4) then 11 else if L.any (fun p => !bnf_prodB t o.length p) = true then 4 else 0) := by
  induction d with
  | zero =>
    intro k i h1 h2
    obtain ⟨k, rfl⟩ : ∃ m, k = m + 2 := ⟨k - 2, by omega⟩
    have hl1 := may_l1 t l o L hL hr L.length k 0 (by omega) (by omega)
    rw [List.drop_zero, show ((0 : Nat) : Int) = 0 from rfl] at hl1
    rw [gramaryeref09_May.l0, if_neg (by omega)]
    by_cases h : l < 1
    · rw [if_pos h, gramaryeref09_May.j2, if_pos rfl, if_pos (by omega)]
    · rw [if_neg h, gramaryeref09_May.j2]
      by_cases h4 : l > 4
      · rw [if_pos (decide_eq_true h4), if_pos (by omega)]
      · rw [if_neg (by simpa using h4), hl1, if_neg (show ¬ ¬ (1 ≤ l ∧ l ≤ 4) by omega)]
  | succ d ih =>
    intro k i h1 h2
    obtain ⟨k, rfl⟩ : ∃ m, k = m + 1 := ⟨k - 1, by omega⟩
    have hi : i < L.length := by omega
    have hp8 := hr L[i] (List.getElem_mem hi)
    rw [gramaryeref09_May.l0, if_pos (by omega), if_pos (by omega), rd51 L i hi, if_neg (by omega), w1 i (by omega)]
    exact ih k (i + 1) (by omega) (by omega)
theorem may_is {N P : Nat} (hN : N ≤ 400) (hP : P ≤ 1000) (t l : Int) (o : List Int) (L : List S51) (h : Small N P o L) (k : Nat) (hk : 20000 ≤ k) : gramaryeref09_May.f k t l o L = some (bnf_mayB t l o L) := by
  have hl := h.l
  have ho := h.o
  obtain ⟨k, rfl⟩ : ∃ m, k = m + 1 := ⟨k - 1, by omega⟩
  have h0 := may_l0 t l o L (by omega) h.r L.length k 0 (by omega) (by omega)
  rw [show ((0 : Nat) : Int) = 0 from rfl] at h0
  have hlong : ¬ (L.any bnf_longB = true) := by
    intro e
    obtain ⟨p, hp, hq⟩ := List.any_eq_true.1 e
    have := h.r p hp
    unfold bnf_longB at hq
    simp at hq
    omega
  unfold gramaryeref09_May.f bnf_mayB
  by_cases a1 : t < 1
  · rw [if_pos a1, gramaryeref09_May.j0, if_pos rfl, if_pos (.inl (by omega))]
  rw [if_neg a1]
  by_cases a2 : t > 60
  · rw [if_pos a2, gramaryeref09_May.j0, if_pos rfl, if_pos (.inl (by omega))]
  rw [if_neg a2]
  by_cases a3 : (o.length : Int) < 1
  · rw [if_pos a3, gramaryeref09_May.j0, if_pos rfl, if_pos (.inr (.inl (by omega)))]
  rw [if_neg a3, if_neg (by omega)]
  by_cases a4 : (L.length : Int) < 1
  · rw [if_pos a4, gramaryeref09_May.j0, if_pos rfl, if_pos (.inr (.inr (.inl (by omega))))]
  have hno : ¬ (¬ (1 ≤ t ∧ t ≤ 60) ∨ ¬ (1 ≤ o.length ∧ o.length ≤ 500) ∨ ¬ (1 ≤ L.length ∧ L.length ≤ 2000) ∨ L.any bnf_longB = true) := by
    rintro (h | h | h | h)
    · omega
    · omega
    · omega
    · exact hlong h
  rw [if_neg a4, gramaryeref09_May.j0, if_neg (by simp; omega), h0, if_neg hno]
theorem mem_occS {i n m : Int} {l : List S59} : (n, m) ∈ occS i l ↔ m = i ∧ ∃ s ∈ l, s.f0 = false ∧ s.f1 = n := by
  unfold occS
  rw [List.mem_map]
  constructor
  · rintro ⟨s, hs, e⟩
    rw [List.mem_filter] at hs
    simp only [Prod.mk.injEq] at e
    exact ⟨e.2.symm, s, hs.1, by simpa using hs.2, e.1⟩
  · rintro ⟨rfl, s, hs, h0, rfl⟩
    exact ⟨s, List.mem_filter.2 ⟨hs, by simp [h0]⟩, rfl⟩
theorem mem_occ {n m : Int} : ∀ (L : List S51) (i : Int), (n, m) ∈ occ i L ↔ ∃ j : Nat, ∃ h : j < L.length, m = i + j ∧ ∃ s ∈ (L[j]).f1, s.f0 = false ∧ s.f1 = n
  | [], i => by simp [occ]
  | p :: ps, i => by
    simp only [occ, List.mem_append, mem_occS, mem_occ ps (i + 1)]
    constructor
    · rintro (⟨rfl, h⟩ | ⟨j, hj, rfl, h⟩)
      · exact ⟨0, by simp, by omega, h⟩
      · exact ⟨j + 1, by simp; omega, by omega, h⟩
    · rintro ⟨j, hj, rfl, h⟩
      cases j with
      | zero => exact .inl ⟨by omega, h⟩
      | succ j => exact .inr ⟨j, by simp at hj; omega, by omega, h⟩
theorem mem_whoOf {L : List S51} {n m : Int} : m ∈ whoOf (occ 0 L) n ↔ ∃ j : Nat, ∃ h : j < L.length, m = (j : Int) ∧ ∃ s ∈ (L[j]).f1, s.f0 = false ∧ s.f1 = n := by
  unfold whoOf
  rw [List.mem_map]
  constructor
  · rintro ⟨⟨a, b⟩, h, rfl⟩
    rw [List.mem_filter] at h
    have e : a = n := by simpa using h.2
    subst e
    obtain ⟨j, hj, e, hs⟩ := (mem_occ L 0).1 h.1
    exact ⟨j, hj, by simpa using e, hs⟩
  · rintro ⟨j, hj, rfl, hs⟩
    exact ⟨(n, (j : Int)), List.mem_filter.2 ⟨(mem_occ L 0).2 ⟨j, hj, by omega, hs⟩, by simp⟩, rfl⟩
theorem whoOf_len (o : List (Int × Int)) (n : Int) : (whoOf o n).length ≤ o.length := by
  unfold whoOf
  rw [List.length_map]
  exact List.length_filter_le _ _
def InP (n : Nat) (L : List S51) : Prop := ∀ p ∈ L, 0 ≤ p.f0 ∧ p.f0 < (n : Int) ∧ ∀ s ∈ p.f1, SymOk n s
theorem may_inN {t l : Int} {o : List Int} {L : List S51} (h : bnf_mayB t l o L = 0) : InP o.length L := fun p hp =>
  ⟨((bnf_may_ok h).2.2.2 p hp).2.1, ((bnf_may_ok h).2.2.2 p hp).2.2.1, ((bnf_may_ok h).2.2.2 p hp).2.2.2⟩
def isOf (tok : Bool) (s : S59) (m : List Bool) : Bool := if s.f0 = true then tok else rdOf false m s.f1
theorem is_nothing : isNothing = isOf false := by
  funext s m
  unfold isNothing isOf
  cases s.f0 <;> simp
def stB (m : List Bool) : Nat → Nat := fun i => if m.getD i false = true then 0 else 1
def okU (tok : Bool) (u : Nat → Nat) (s : S59) : Bool := if s.f0 = true then tok else decide (u s.f1.toNat = 0)
def valB (tok : Bool) (l : List S59) (u : Nat → Nat) : Nat := if l.all (okU tok u) = true then 0 else 1
def psB (tok : Bool) (L : List S51) : List Pr := L.map fun p => (p.f0.toNat, valB tok p.f1)
theorem psB_length (tok : Bool) (L : List S51) : (psB tok L).length = L.length := by simp [psB]
theorem psB_get (tok : Bool) (L : List S51) (i : Nat) (h : i < L.length) (h' : i < (psB tok L).length) : (psB tok L)[i] = (L[i].f0.toNat, valB tok L[i].f1) := by simp [psB]
theorem getD_rdB (m : List Bool) (x : Int) : m.getD x.toNat false = rdOf false m x := rfl
theorem ok_is (tok : Bool) (m : List Bool) (s : S59) : okU tok (stB m) s = isOf tok s m := by
  unfold okU isOf stB
  rw [getD_rdB]
  by_cases h : s.f0 = true
  · rw [if_pos h, if_pos h]
  · rw [if_neg h, if_neg h]
    cases rdOf false m s.f1 <;> rfl
theorem valB_is (tok : Bool) (l : List S59) (m : List Bool) : valB tok l (stB m) = if l.any (fun s => !isOf tok s m) = true then 1 else 0 := by
  unfold valB
  have e : l.all (okU tok (stB m)) = !(l.any fun s => !isOf tok s m) := by
    rw [List.all_eq_not_any_not]
    congr 2
    funext s
    rw [ok_is]
  rw [e]
  cases l.any (fun s => !isOf tok s m) <;> rfl
theorem valB_mono (tok : Bool) (l : List S59) : Mono1 (valB tok l) := by
  intro u u' h
  unfold valB
  by_cases a : l.all (okU tok u') = true
  · rw [if_pos a, if_pos]
    · exact Nat.le_refl _
    rw [List.all_eq_true] at a ⊢
    intro s hs
    have := a s hs
    unfold okU at this ⊢
    by_cases ht : s.f0 = true
    · rw [if_pos ht] at this ⊢; exact this
    · rw [if_neg ht] at this ⊢
      have hu := h s.f1.toNat
      simp only [decide_eq_true_eq] at this ⊢
      omega
  · rw [if_neg a]
    split <;> omega
theorem allB_upd (tok : Bool) (u : Nat → Nat) (x y : Nat) (l : List S59) (h : ∀ s ∈ l, s.f0 = false → s.f1.toNat ≠ x) : l.all (okU tok (upd u x y)) = l.all (okU tok u) := by
  rw [Bool.eq_iff_iff, List.all_eq_true, List.all_eq_true]
  have e : ∀ s ∈ l, okU tok (upd u x y) s = okU tok u s := by
    intro s hs
    unfold okU
    by_cases ht : s.f0 = true
    · rw [if_pos ht, if_pos ht]
    · have := h s hs (by simpa using ht)
      rw [if_neg ht, if_neg ht, show upd u x y s.f1.toNat = u s.f1.toNat by unfold upd; rw [if_neg this]]
  exact ⟨fun a s hs => by rw [← e s hs]; exact a s hs, fun a s hs => by rw [e s hs]; exact a s hs⟩
theorem stB_set {m : List Bool} {x : Int} (h0 : 0 ≤ x) (h1 : x < (m.length : Int)) : stB (m.set x.toNat true) = upd (stB m) x.toNat 0 := by
  funext j
  have g : (m.set x.toNat true).getD j false = if x.toNat = j then true else m.getD j false := by
    rw [List.getD_eq_getElem?_getD, List.getD_eq_getElem?_getD, List.getElem?_set]
    by_cases e : x.toNat = j
    · subst e
      rw [if_pos rfl, if_pos rfl, if_pos (by omega)]; rfl
    · rw [if_neg e, if_neg e]
  show (if (m.set x.toNat true).getD j false = true then 0 else 1) = (if j = x.toNat then 0 else (if m.getD j false = true then 0 else 1))
  rw [g]
  by_cases e : x.toNat = j
  · rw [if_pos e, if_pos rfl, if_pos e.symm]
  · rw [if_neg e, if_neg (show ¬ j = x.toNat from fun h => e h.symm)]
def u0B : Nat → Nat := fun _ => 1
theorem stB_init (n : Nat) : stB (List.replicate n false) = u0B := by
  funext j
  unfold stB u0B
  rw [List.getD_eq_getElem?_getD, List.getElem?_replicate]
  split <;> rfl
theorem impB (tok : Bool) (l : List S59) (m : List Bool) (x : Int) : valB tok l (stB m) < stB m x.toNat ↔ rdOf false m x = false ∧ l.any (fun s => !isOf tok s m) = false := by
  rw [valB_is]
  unfold stB
  rw [getD_rdB]
  cases l.any (fun s => !isOf tok s m) <;> cases rdOf false m x <;> simp
theorem marks_ok (tok : Bool) {t l : Int} {o : List Int} {L : List S51} (hm : bnf_mayB t l o L = 0) (hs : Small 40 60 o L) :
    ∃ m, empty_marksF (isOf tok) t l o L = some (m, 0) ∧ m.length = o.length ∧ Above (psB tok L) u0B (stB m) ∧ Stable (psB tok L) (stB m) := by
  have hin := may_inN hm
  have hocc : (occ 0 L).length ≤ 500 * L.length := occ_len L 0 (fun p hp => by have := hs.r p hp; omega)
  have hl := hs.l
  have ho := hs.o
  have key : ∃ r, growG (isOf tok) (occ 0 L) L (L.length + o.length * (occ 0 L).length + 1) (List.replicate o.length false) (upTo L.length) = some r ∧ r.length = o.length ∧ Above (psB tok L) u0B (stB r) ∧ Stable (psB tok L) (stB r) := by
    refine work_ends (growG (isOf tok) (occ 0 L) L) stB (fun m => m.length = o.length) (psB tok L) (fun x => whoOf (occ 0 L) (x : Int)) o.length (occ 0 L).length 17592186044416 u0B ?_ ?_ ?_ ?_ ?_ ?_ ?_ _ _ _ ?_ ?_ ?_ ?_ ?_ ?_
    · intro p hp
      obtain ⟨q, _, rfl⟩ := List.mem_map.1 hp
      exact valB_mono tok q.f1
    · intro p hp
      obtain ⟨q, hq, rfl⟩ := List.mem_map.1 hp
      have := hin q hq
      show q.f0.toNat < o.length
      omega
    · intro x
      refine ⟨whoOf_len _ _, fun j hj => ?_⟩
      obtain ⟨j, hj, rfl, _⟩ := mem_whoOf.1 hj
      rw [psB_length]
      omega
    · intro j hj u x y hno
      have hj' : j < L.length := by rwa [psB_length] at hj
      rw [psB_get tok L j hj' hj]
      show valB tok _ _ = valB tok _ _
      unfold valB
      rw [allB_upd tok u x y L[j].f1 (fun s hs h0 e => hno (mem_whoOf.2 ⟨j, hj', rfl, s, hs, h0, by
        have := (hin _ (List.getElem_mem hj')).2.2 s hs h0
        omega⟩))]
    · intro k s; rfl
    · intro k m i hi rest hv himp
      have hi' : i < L.length := by rwa [psB_length] at hi
      rw [psB_get tok L i hi' hi] at himp
      obtain ⟨a0, a1, a2⟩ := hin _ (List.getElem_mem hi')
      simp only at himp
      rw [impB] at himp
      rw [growG, rd51 L i hi', if_pos ⟨by omega, by omega, a0, by omega⟩]
      cases h1 : rdOf false m L[i].f0 with
      | true => rw [if_pos rfl]
      | false =>
        rw [if_neg (by decide)]
        cases h2 : L[i].f1.any (fun s => !isOf tok s m) with
        | true => rw [if_pos rfl]
        | false => exact absurd ⟨h1, h2⟩ himp
    · intro k m i hi rest hv himp hroom
      have hi' : i < L.length := by rwa [psB_length] at hi
      rw [psB_get tok L i hi' hi] at himp hroom ⊢
      obtain ⟨a0, a1, a2⟩ := hin _ (List.getElem_mem hi')
      simp only at himp hroom ⊢
      have himp' := himp
      rw [impB] at himp
      rw [show ((L[i].f0.toNat : Nat) : Int) = L[i].f0 by omega] at hroom ⊢
      refine ⟨m.set L[i].f0.toNat true, by rw [List.length_set]; exact hv, ?_, ?_⟩
      · rw [stB_set a0 (by omega), valB_is, himp.2]; rfl
      · rw [growG, rd51 L i hi', if_pos ⟨by omega, by omega, a0, by omega⟩, himp.1, himp.2, if_neg (by decide), if_neg (by decide), if_pos hroom]
    · simp
    · rw [stB_init]; exact Above.init _ _
    · intro j hj
      unfold upTo at hj
      obtain ⟨i, hi, rfl⟩ := List.mem_map.1 hj
      rw [List.mem_range] at hi
      rw [psB_length]
      show 0 ≤ (i : Int) ∧ (i : Int) < _
      omega
    · intro j hj _
      rw [psB_length] at hj
      unfold upTo
      exact List.mem_map.2 ⟨j, List.mem_range.2 hj, rfl⟩
    · rw [upTo_length, stB_init]
      have h1 := tot_le (u := u0B) (b := 1) (fun i => Nat.le_refl _) o.length
      have h2 := Nat.mul_le_mul_right (occ 0 L).length h1
      rw [Nat.mul_one] at h2
      omega
    · have h3 : o.length * (occ 0 L).length ≤ 40 * 30000 := Nat.mul_le_mul ho (by omega)
      omega
  obtain ⟨r, h1, h2⟩ := key
  refine ⟨r, ?_, h2⟩
  unfold empty_marksF
  rw [if_pos hm, h1]
  rfl
theorem stateB_eq {v v' : List Bool} (hl : v.length = v'.length) (e : ∀ i, stB v i = stB v' i) : v = v' := by
  apply List.ext_getElem hl
  intro i h1 h2
  have := e i
  unfold stB at this
  rw [List.getD_eq_getElem?_getD, List.getD_eq_getElem?_getD, List.getElem?_eq_getElem h1, List.getElem?_eq_getElem h2] at this
  simp only [Option.getD_some] at this
  cases h3 : v[i] <;> cases h4 : v'[i] <;> simp [h3, h4] at this ⊢
theorem row_ref (tok : Bool) (l : List S59) (m : List Bool) (hl : l.length ≤ 1000) (hs : ∀ s ∈ l, SymOk m.length s) (d : Nat) : ∀ (k i : Nat), i + d = l.length → d < k →
    gramaryeref10_row.l0 k l tok m (i : Int) = some (!((l.drop i).any fun s => !isOf tok s m)) := by
  induction d with
  | zero =>
    intro k i h1 h2
    obtain ⟨k, rfl⟩ : ∃ m, k = m + 1 := ⟨k - 1, by omega⟩
    rw [gramaryeref10_row.l0, if_neg (by omega), List.drop_of_length_le (by omega)]
    rfl
  | succ d ih =>
    intro k i h1 h2
    obtain ⟨k, rfl⟩ : ∃ m, k = m + 1 := ⟨k - 1, by omega⟩
    have hi : i < l.length := by omega
    have hk := hs _ (List.getElem_mem hi)
    rw [gramaryeref10_row.l0, if_pos (by omega), if_pos (by omega), rd59 l i hi, w1 i (by omega), ih k (i + 1) (by omega) (by omega), List.drop_eq_getElem_cons hi, List.any_cons]
    generalize (List.drop (i + 1) l).any (fun s => !isOf tok s m) = q
    generalize l[i] = s at hk
    unfold isOf
    by_cases ht : s.f0 = true
    · rw [if_pos ht, if_pos ht, if_pos ht]
      cases tok <;> simp
    · obtain ⟨h3, h4⟩ := hk (by simpa using ht)
      rw [if_neg ht, if_neg ht, if_neg ht, if_pos h3, if_pos h4]
      cases rdOf false m s.f1 <;> simp
section
variable (tok : Bool) (t l : Int) (o : List Int) (L : List S51)
theorem ev_mark {v r : List Bool} {more : Bool} {i : Nat} (hi : i < L.length) (hL : L.length ≤ 1000) (hr8 : L[i].f1.length ≤ 8) (h0 : 0 ≤ L[i].f0) (h1 : L[i].f0 < (v.length : Int)) (hs : ∀ s ∈ L[i].f1, SymOk v.length s)
    (h : Ev (fun k => if rdOf false v L[i].f0 = false ∧ L[i].f1.any (fun s => !isOf tok s v) = false then gramaryeref10_mark.l1 k tok (v.set L[i].f0.toNat true) true ((i + 1 : Nat) : Int) t l o L else gramaryeref10_mark.l1 k tok v more ((i + 1 : Nat) : Int) t l o L) r) :
    Ev (fun k => gramaryeref10_mark.l1 k tok v more (i : Int) t l o L) r := by
  obtain ⟨K, hK⟩ := h
  refine ⟨K + 1010, fun k hk => ?_⟩
  obtain ⟨k, rfl⟩ : ∃ m, k = m + 1 := ⟨k - 1, by omega⟩
  have e := hK k (by omega)
  have hrow := row_ref tok L[i].f1 v (by omega) hs L[i].f1.length k 0 (by omega) (by omega)
  rw [List.drop_zero, show ((0 : Nat) : Int) = 0 from rfl] at hrow
  show gramaryeref10_mark.l1 (k + 1) tok v more (i : Int) t l o L = some r
  simp only at e
  rw [gramaryeref10_mark.l1, if_pos (by omega), if_pos (by omega), rd51 L i hi, if_pos h0, if_pos h1, w1 i (by omega)]
  cases hb : rdOf false v L[i].f0 with
  | true =>
    rw [hb, if_neg (by rintro ⟨h, _⟩; cases h)] at e
    rw [if_pos rfl]; exact e
  | false =>
    rw [if_neg (by decide), show gramaryeref10_row.f k L[i].f1 tok v = _ from hrow]
    simp only [Option.bind_some]
    cases hq : L[i].f1.any (fun s => !isOf tok s v) with
    | true =>
      rw [hq, if_neg (by rintro ⟨_, h⟩; cases h)] at e
      rw [if_neg (by decide)]; exact e
    | false =>
      rw [hb, hq, if_pos ⟨rfl, rfl⟩] at e
      rw [if_pos (by decide)]; exact e
end
theorem ref_marks (tok : Bool) {t l : Int} {o : List Int} {L : List S51} (hm : bnf_mayB t l o L = 0) (hs : Small 40 60 o L) :
    ∃ v, Ev (fun k => gramaryeref10_mark.f k t l o L tok) v ∧ v.length = o.length ∧ Above (psB tok L) u0B (stB v) ∧ Stable (psB tok L) (stB v) := by
  have hin := may_inN hm
  have hl := hs.l
  have ho := hs.o
  have key : ∃ r, Ev (fun k => gramaryeref10_mark.l0 k tok (List.replicate o.length false) true t l o L) r ∧ r.length = o.length ∧ Above (psB tok L) u0B (stB r) ∧ Stable (psB tok L) (stB r) := by
    refine sweeps_end (fun k s b => gramaryeref10_mark.l0 k tok s b t l o L) (fun k s b i => gramaryeref10_mark.l1 k tok s b (i : Int) t l o L) stB (fun v => v.length = o.length) (psB tok L) o.length u0B ?_ ?_ ?_ ?_ ?_ ?_ ?_ _ _ ?_ ?_ (Nat.le_refl _)
    · intro p hp
      obtain ⟨q, _, rfl⟩ := List.mem_map.1 hp
      exact valB_mono tok q.f1
    · intro p hp
      obtain ⟨q, hq, rfl⟩ := List.mem_map.1 hp
      have := hin q hq
      show q.f0.toNat < o.length
      omega
    · intro s r h
      exact Ev.step (fun k => by rw [gramaryeref10_mark.l0, if_pos rfl]; rfl) h
    · intro s
      refine ⟨1, fun k hk => ?_⟩
      obtain ⟨k, rfl⟩ : ∃ m, k = m + 1 := ⟨k - 1, by omega⟩
      show gramaryeref10_mark.l0 (k + 1) tok s false t l o L = some s
      rw [gramaryeref10_mark.l0, if_neg (by decide)]
    · intro v more i hi r hv himp h
      have hi' : i < L.length := by rwa [psB_length] at hi
      rw [psB_get tok L i hi' hi] at himp
      obtain ⟨a0, a1, a2⟩ := hin _ (List.getElem_mem hi')
      simp only at himp
      rw [impB] at himp
      refine ev_mark tok t l o L hi' (by omega) (hs.r _ (List.getElem_mem hi')) a0 (by omega) (by rw [hv]; exact a2) ?_
      refine Ev.congr (fun k => ?_) h
      rw [if_neg himp]
    · intro v more i hi hv himp
      have hi' : i < L.length := by rwa [psB_length] at hi
      rw [psB_get tok L i hi' hi] at himp ⊢
      obtain ⟨a0, a1, a2⟩ := hin _ (List.getElem_mem hi')
      simp only at himp ⊢
      rw [impB] at himp
      refine ⟨v.set L[i].f0.toNat true, by rw [List.length_set]; exact hv, ?_, fun r h => ?_⟩
      · rw [stB_set a0 (by omega), valB_is, himp.2]; rfl
      · refine ev_mark tok t l o L hi' (by omega) (hs.r _ (List.getElem_mem hi')) a0 (by omega) (by rw [hv]; exact a2) ?_
        refine Ev.congr (fun k => ?_) h
        rw [if_pos himp]
    · intro s more r h
      rw [psB_length]
      exact Ev.step (fun k => by rw [gramaryeref10_mark.l1, if_neg (by omega)]) h
    · simp
    · rw [stB_init]; exact Above.init _ _
  obtain ⟨r, h1, h2⟩ := key
  refine ⟨r, Ev.congr (fun k => ?_) h1, h2⟩
  unfold gramaryeref10_mark.f
  rw [if_pos (by omega), if_pos (by omega), Int.toNat_natCast]
def lay (l : List (List Int)) (first : List Int) : Nat → Int → Prop
  | 0, x => x ∈ first
  | d + 1, x => ∃ a, lay l first d a ∧ x ∈ l.getD a.toNat []
theorem lay_congr {l : List (List Int)} {f g : List Int} (h : ∀ x, x ∈ f ↔ x ∈ g) : ∀ d x, lay l f d x ↔ lay l g d x
  | 0, x => h x
  | d + 1, x => ⟨fun ⟨a, h1, h2⟩ => ⟨a, (lay_congr h d a).1 h1, h2⟩, fun ⟨a, h1, h2⟩ => ⟨a, (lay_congr h d a).2 h1, h2⟩⟩
def bfs (l : List (List Int)) : Nat → List Bool → List (Int × Int) → Option (List (Int × Int))
  | 0, _, _ => none
  | _ + 1, _, [] => some []
  | k + 1, m, x :: r => (bfs l k (walkPut (l.getD x.1.toNat []) x.1 (m, r)).1 (walkPut (l.getD x.1.toNat []) x.1 (m, r)).2).map (x :: ·)
def stopAt {σ : Type} (tell : σ → Int → Int → σ × Bool) : List (Int × Int) → σ → σ
  | [], st => st
  | x :: r, st => if (tell st x.1 x.2).2 = true then stopAt tell r (tell st x.1 x.2).1 else (tell st x.1 x.2).1
theorem walk_bfs {σ : Type} (l : List (List Int)) (tell : σ → Int → Int → σ × Bool) : ∀ (k : Nat) (m : List Bool) (q : List (Int × Int)) (st : σ) (tr : List (Int × Int)), bfs l k m q = some tr → walkL l tell k m q st = some (stopAt tell tr st)
  | 0, _, _, _, _, h => by simp [bfs] at h
  | k + 1, m, [], st, tr, h => by rw [bfs] at h; injection h with h; subst h; rfl
  | k + 1, m, x :: r, st, tr, h => by
    rw [bfs] at h
    obtain ⟨t, ht, rfl⟩ := Option.map_eq_some_iff.1 h
    rw [walkL, stopAt]
    by_cases c : (tell st x.1 x.2).2 = true
    · rw [if_pos c, if_pos c]; exact walk_bfs l tell k _ _ _ _ ht
    · rw [if_neg c, if_neg c]
def nodes (A : List (Int × Int)) : List Int := A.map (·.1)
theorem nodes_app (A B : List (Int × Int)) : nodes (A ++ B) = nodes A ++ nodes B := by simp [nodes]
theorem mem_nodes {A : List (Int × Int)} {p : Int × Int} (h : p ∈ A) : p.1 ∈ nodes A := List.mem_map.2 ⟨p, h, rfl⟩
theorem of_nodes {A : List (Int × Int)} {x : Int} (h : x ∈ nodes A) : ∃ p ∈ A, p.1 = x := List.mem_map.1 h
theorem nodup_le : ∀ (n : Nat) (l : List Int), l.Nodup → (∀ x ∈ l, 0 ≤ x ∧ x < (n : Int)) → l.length ≤ n
  | 0, l, _, h => by
    cases l with
    | nil => simp
    | cons x r => have := h x List.mem_cons_self; omega
  | n + 1, l, hn, h => by
    by_cases hm : (n : Int) ∈ l
    · have h1 := nodup_le n (l.erase (n : Int)) (hn.erase _) (fun x hx => by
        have h2 := (hn.mem_erase_iff).1 hx
        have := h x h2.2
        have h3 := h2.1
        omega)
      rw [List.length_erase_of_mem hm] at h1
      omega
    · have := nodup_le n l hn (fun x hx => by
        have h2 := h x hx
        have : x ≠ (n : Int) := fun e => hm (e ▸ hx)
        omega)
      omega
structure BInv (l : List (List Int)) (first : List Int) (F : Int → Prop) (R : Int → Int → Prop) (T q : List (Int × Int)) (m : List Bool) (lv : Int → Nat) (c : Nat) : Prop where
  len : m.length = l.length
  inn : ∀ p ∈ T ++ q, 0 ≤ p.1 ∧ p.1 < (l.length : Int)
  seen : ∀ x, 0 ≤ x → (rdOf false m x = true ↔ x ∈ nodes (T ++ q))
  nodup : (nodes (T ++ q)).Nodup
  ent : ∀ p ∈ T ++ q, (p.2 = -1 ∧ p.1 ∈ first ∧ lv p.1 = 0) ∨ (p.2 ∈ nodes T ∧ p.1 ∈ l.getD p.2.toNat [] ∧ lv p.1 = lv p.2 + 1)
  rows : ∀ a x, R a x → a ∈ nodes T ∧ x ∈ nodes (T ++ q) ∧ lv x ≤ lv a + 1
  fst : ∀ x, F x → x ∈ nodes (T ++ q) ∧ lv x = 0
  srt : (nodes (T ++ q)).Pairwise (fun a b => lv a ≤ lv b)
  rng : ∀ p ∈ q, c ≤ lv p.1 ∧ lv p.1 ≤ c + 1
  told : ∀ p ∈ T, lv p.1 ≤ c
section
variable {l : List (List Int)} {first : List Int} {F : Int → Prop} {R : Int → Int → Prop} {T q : List (Int × Int)} {m : List Bool} {lv : Int → Nat} {c : Nat}
theorem rd_set (m : List Bool) (x y : Int) (x0 : 0 ≤ x) (x1 : x < (m.length : Int)) (y0 : 0 ≤ y) : rdOf false (m.set x.toNat true) y = if y = x then true else rdOf false m y := by
  unfold rdOf
  rw [List.getD_eq_getElem?_getD, List.getD_eq_getElem?_getD, List.getElem?_set]
  by_cases e : y = x
  · subst e
    rw [if_pos rfl, if_pos rfl, if_pos (by omega)]; rfl
  · rw [if_neg e, if_neg (by omega)]
theorem BInv.put (h : BInv l first F R T q m lv c) {x b : Int} {v : Nat} (x0 : 0 ≤ x) (x1 : x < (l.length : Int)) (hb : (b = -1 ∧ x ∈ first ∧ v = 0) ∨ (b ∈ nodes T ∧ x ∈ l.getD b.toNat [] ∧ v = lv b + 1)) (hv : ∀ p ∈ q, lv p.1 ≤ v) (hv1 : c ≤ v) (hv2 : v ≤ c + 1) :
    ∃ lv', BInv l first F R T (putF (m, q) x b).2 (putF (m, q) x b).1 lv' c ∧ x ∈ nodes (T ++ (putF (m, q) x b).2) ∧ lv' x ≤ v ∧ (∀ y ∈ nodes (T ++ q), lv' y = lv y ∧ y ∈ nodes (T ++ (putF (m, q) x b).2)) ∧ (∀ p ∈ (putF (m, q) x b).2, p ∈ q ∨ lv' p.1 = v) := by
  unfold putF
  by_cases hs : rdOf false m x = true
  · rw [if_pos hs]
    have hx := (h.seen x x0).1 hs
    refine ⟨lv, h, hx, ?_, fun y hy => ⟨rfl, hy⟩, fun p hp => .inl hp⟩
    obtain ⟨p, hp, rfl⟩ := of_nodes hx
    rcases List.mem_append.1 hp with hp | hp
    · have := h.told p hp; omega
    · exact hv p hp
  · rw [if_neg hs]
    have hx : x ∉ nodes (T ++ q) := fun e => hs ((h.seen x x0).2 e)
    have hne : ∀ y ∈ nodes (T ++ q), (if y = x then v else lv y) = lv y := fun y hy => if_neg (fun e : y = x => hx (e ▸ hy))
    have hT : ∀ y ∈ nodes T, y ∈ nodes (T ++ q) := fun y hy => by rw [nodes_app]; exact List.mem_append_left _ hy
    have hq : ∀ p ∈ q, p.1 ∈ nodes (T ++ q) := fun p hp => mem_nodes (List.mem_append_right _ hp)
    have happ : T ++ (q ++ [(x, b)]) = (T ++ q) ++ [(x, b)] := by rw [List.append_assoc]
    refine ⟨fun y => if y = x then v else lv y, ⟨?_, ?_, ?_, ?_, ?_, ?_, ?_, ?_, ?_, ?_⟩, ?_, by simp, fun y hy => ⟨hne y hy, by rw [happ, nodes_app]; exact List.mem_append_left _ hy⟩, fun p hp => ?_⟩
    · rw [List.length_set]; exact h.len
    · intro p hp
      rw [happ] at hp
      rcases List.mem_append.1 hp with hp | hp
      · exact h.inn p hp
      · obtain rfl := List.mem_singleton.1 hp
        exact ⟨x0, x1⟩
    · intro y y0
      rw [rd_set m x y x0 (by rw [h.len]; exact x1) y0, happ, nodes_app, List.mem_append]
      by_cases e : y = x
      · rw [if_pos e]
        exact ⟨fun _ => .inr (by rw [e]; simp [nodes]), fun _ => rfl⟩
      · rw [if_neg e, h.seen y y0]
        exact ⟨.inl, fun h' => h'.elim id fun h' => absurd (by simpa [nodes] using h') e⟩
    · rw [happ, nodes_app]
      exact List.nodup_append.2 ⟨h.nodup, by simp [nodes], fun a ha b' hb' e => by
        have : b' = x := by simpa [nodes] using hb'
        exact hx (by rw [← this, ← e]; exact ha)⟩
    · intro p hp
      rw [happ] at hp
      rcases List.mem_append.1 hp with hp | hp
      · rw [hne _ (mem_nodes hp)]
        rcases h.ent p hp with h1 | ⟨h1, h2, h3⟩
        · exact .inl h1
        · exact .inr ⟨h1, h2, by rw [hne _ (hT _ h1)]; exact h3⟩
      · obtain rfl := List.mem_singleton.1 hp
        simp only [if_pos]
        rcases hb with h1 | ⟨h1, h2, h3⟩
        · exact .inl h1
        · exact .inr ⟨h1, h2, by rw [hne _ (hT _ h1)]; exact h3⟩
    · intro a y hr
      obtain ⟨h1, h2, h3⟩ := h.rows a y hr
      refine ⟨h1, by rw [happ, nodes_app]; exact List.mem_append_left _ h2, ?_⟩
      rw [hne _ h2, hne _ (hT _ h1)]; exact h3
    · intro y hf
      obtain ⟨h1, h2⟩ := h.fst y hf
      exact ⟨by rw [happ, nodes_app]; exact List.mem_append_left _ h1, by rw [hne _ h1]; exact h2⟩
    · rw [happ, nodes_app]
      refine List.pairwise_append.2 ⟨?_, by simp [nodes], ?_⟩
      · refine List.Pairwise.imp_of_mem ?_ h.srt
        intro a b' ha hb' hab
        rw [hne _ ha, hne _ hb']; exact hab
      · intro a ha b' hb'
        have e : b' = x := by simpa [nodes] using hb'
        rw [hne _ ha, e, if_pos rfl]
        obtain ⟨p, hp, rfl⟩ := of_nodes ha
        rcases List.mem_append.1 hp with hp | hp
        · have := h.told p hp; omega
        · exact hv p hp
    · intro p hp
      rcases List.mem_append.1 hp with hp | hp
      · rw [hne _ (hq p hp)]; exact h.rng p hp
      · obtain rfl := List.mem_singleton.1 hp
        simp only [if_pos]
        exact ⟨hv1, hv2⟩
    · intro p hp
      rw [hne _ (hT _ (mem_nodes hp))]; exact h.told p hp
    · rw [happ, nodes_app]; exact List.mem_append_right _ (by simp [nodes])
    · rcases List.mem_append.1 hp with hp | hp
      · exact .inl hp
      · obtain rfl := List.mem_singleton.1 hp
        exact .inr (by simp)
theorem BInv.more {F' : Int → Prop} {R' : Int → Int → Prop} (h : BInv l first F R T q m lv c) (hR : ∀ a x, R' a x → R a x ∨ (a ∈ nodes T ∧ x ∈ nodes (T ++ q) ∧ lv x ≤ lv a + 1)) (hF : ∀ x, F' x → F x ∨ (x ∈ nodes (T ++ q) ∧ lv x = 0)) : BInv l first F' R' T q m lv c :=
  ⟨h.len, h.inn, h.seen, h.nodup, h.ent, fun a x hr => (hR a x hr).elim (h.rows a x) id, fun x hf => (hF x hf).elim (h.fst x) id, h.srt, h.rng, h.told⟩
theorem BInv.putRow {a : Int} : ∀ (xs : List Int) (R : Int → Int → Prop) (q : List (Int × Int)) (m : List Bool) (lv : Int → Nat), BInv l first F R T q m lv c → a ∈ nodes T → lv a = c → (∀ x ∈ xs, 0 ≤ x ∧ x < (l.length : Int) ∧ x ∈ l.getD a.toNat []) →
    ∃ lv', BInv l first F (fun b x => R b x ∨ (b = a ∧ x ∈ xs)) T (walkPut xs a (m, q)).2 (walkPut xs a (m, q)).1 lv' c
  | [], R, q, m, lv, h, ha, hc, hx => ⟨lv, h.more (fun b x hr => hr.elim .inl fun h => by cases h.2) (fun x hf => .inl hf)⟩
  | x :: xs, R, q, m, lv, h, ha, hc, hx => by
    obtain ⟨x0, x1, x2⟩ := hx x List.mem_cons_self
    obtain ⟨lv1, h1, h2, h3, h4, _⟩ := h.put x0 x1 (.inr ⟨ha, x2, rfl⟩) (fun p hp => by have := h.rng p hp; omega) (by omega) (by omega)
    have haq : a ∈ nodes (T ++ q) := by rw [nodes_app]; exact List.mem_append_left _ ha
    have hla : lv1 a = lv a := (h4 a haq).1
    have h1' := h1.more (F' := F) (R' := fun b y => R b y ∨ (b = a ∧ y = x)) (fun b y hr => hr.elim .inl fun ⟨e1, e2⟩ => .inr (by subst e1 e2; exact ⟨ha, h2, by omega⟩)) (fun x hf => .inl hf)
    obtain ⟨lv2, h5⟩ := BInv.putRow xs _ _ _ lv1 h1' ha (by omega) (fun y hy => hx y (List.mem_cons_of_mem _ hy))
    exact ⟨lv2, h5.more (fun b y hr => .inl (by
      rcases hr with hr | ⟨e1, hr⟩
      · exact .inl (.inl hr)
      · rcases List.mem_cons.1 hr with e2 | hr
        · exact .inl (.inr ⟨e1, e2⟩)
        · exact .inr ⟨e1, hr⟩)) (fun x hf => .inl hf)⟩
theorem BInv.putFirst : ∀ (xs : List Int) (F : Int → Prop) (q : List (Int × Int)) (m : List Bool) (lv : Int → Nat), BInv l first F R [] q m lv 0 → (∀ p ∈ q, lv p.1 = 0) → (∀ x ∈ xs, 0 ≤ x ∧ x < (l.length : Int) ∧ x ∈ first) →
    ∃ lv', BInv l first (fun x => F x ∨ x ∈ xs) R [] (walkPut xs (-1) (m, q)).2 (walkPut xs (-1) (m, q)).1 lv' 0
  | [], F, q, m, lv, h, h0, hx => ⟨lv, h.more (fun b x hr => .inl hr) (fun x hf => hf.elim .inl fun h => by cases h)⟩
  | x :: xs, F, q, m, lv, h, h0, hx => by
    obtain ⟨x0, x1, x2⟩ := hx x List.mem_cons_self
    obtain ⟨lv1, h1, h2, h3, h4, h5⟩ := h.put x0 x1 (.inl ⟨rfl, x2, rfl⟩) (fun p hp => by have := h0 p hp; omega) (Nat.le_refl _) (by omega)
    have h1' := h1.more (F' := fun y => F y ∨ y = x) (R' := R) (fun b y hr => .inl hr) (fun y hf => hf.elim .inl fun e => .inr (by subst e; exact ⟨h2, by omega⟩))
    obtain ⟨lv2, h6⟩ := BInv.putFirst xs _ _ _ lv1 h1' (fun p hp => by
      rcases h5 p hp with h | h
      · rw [(h4 p.1 (mem_nodes (by simpa using h))).1]; exact h0 p h
      · exact h) (fun y hy => hx y (List.mem_cons_of_mem _ hy))
    exact ⟨lv2, h6.more (fun b y hr => .inl hr) (fun y hr => .inl (by
      rcases hr with hr | hr
      · exact .inl (.inl hr)
      · rcases List.mem_cons.1 hr with e2 | hr
        · exact .inl (.inr e2)
        · exact .inr hr))⟩
theorem BInv.pop {a b : Int} {r : List (Int × Int)} (h : BInv l first F R T ((a, b) :: r) m lv c) : BInv l first F R (T ++ [(a, b)]) r m lv (lv a) := by
  have e : (T ++ [(a, b)]) ++ r = T ++ (a, b) :: r := by simp
  have hT : ∀ y ∈ nodes T, y ∈ nodes (T ++ [(a, b)]) := fun y hy => by rw [nodes_app]; exact List.mem_append_left _ hy
  have h0 := h.rng (a, b) List.mem_cons_self
  refine ⟨h.len, by rw [e]; exact h.inn, by rw [e]; exact h.seen, by rw [e]; exact h.nodup, ?_, ?_, by rw [e]; exact h.fst, by rw [e]; exact h.srt, ?_, ?_⟩
  · rw [e]
    exact fun p hp => (h.ent p hp).elim .inl fun h1 => .inr ⟨hT _ h1.1, h1.2⟩
  · rw [e]
    exact fun a' x hr => ⟨hT _ (h.rows a' x hr).1, (h.rows a' x hr).2⟩
  · intro p hp
    have h1 := h.rng p (List.mem_cons_of_mem _ hp)
    have h2 := h.srt
    rw [nodes_app] at h2
    have h3 := (List.pairwise_append.1 h2).2.1
    have h4 := List.rel_of_pairwise_cons h3 (a' := p.1) (mem_nodes hp)
    simp only at h0 h1 h4 ⊢
    omega
  · intro p hp
    rcases List.mem_append.1 hp with hp | hp
    · have := h.told p hp
      simp only at h0
      omega
    · obtain rfl := List.mem_singleton.1 hp
      exact Nat.le_refl _
end
structure BFin (l : List (List Int)) (first : List Int) (A : List (Int × Int)) (lv : Int → Nat) : Prop where
  inn : ∀ p ∈ A, 0 ≤ p.1 ∧ p.1 < (l.length : Int)
  nodup : (nodes A).Nodup
  ent : ∀ p ∈ A, (p.2 = -1 ∧ p.1 ∈ first ∧ lv p.1 = 0) ∨ (p.2 ∈ nodes A ∧ p.1 ∈ l.getD p.2.toNat [] ∧ lv p.1 = lv p.2 + 1)
  rows : ∀ a ∈ nodes A, ∀ x ∈ l.getD a.toNat [], x ∈ nodes A ∧ lv x ≤ lv a + 1
  fst : ∀ x ∈ first, x ∈ nodes A ∧ lv x = 0
  srt : (nodes A).Pairwise (fun a b => lv a ≤ lv b)
theorem bfs_go {l : List (List Int)} {first : List Int} (hl : InN l.length l) : ∀ (k : Nat) (R : Int → Int → Prop) (T q : List (Int × Int)) (m : List Bool) (lv : Int → Nat) (c : Nat), BInv l first (fun x => x ∈ first) R T q m lv c → (∀ p ∈ T, ∀ x ∈ l.getD p.1.toNat [], R p.1 x) → l.length < k + T.length →
    ∃ tr lv', bfs l k m q = some tr ∧ BFin l first (T ++ tr) lv'
  | 0, R, T, q, m, lv, c, h, hR, hk => by
    have h1 : (nodes T).Nodup := by have := h.nodup; rw [nodes_app] at this; exact (List.nodup_append.1 this).1
    have := nodup_le l.length (nodes T) h1 (fun x hx => by obtain ⟨p, hp, rfl⟩ := of_nodes hx; exact h.inn p (List.mem_append_left _ hp))
    simp [nodes] at this
    omega
  | k + 1, R, T, [], m, lv, c, h, hR, hk => by
    refine ⟨[], lv, rfl, ?_⟩
    have e : T ++ [] = T := List.append_nil T
    refine ⟨h.inn, h.nodup, by rw [e]; have := h.ent; rwa [e] at this, fun a ha x hx => ?_, h.fst, h.srt⟩
    rw [e] at ha
    obtain ⟨p, hp, rfl⟩ := of_nodes ha
    exact (h.rows _ x (hR p hp x hx)).2
  | k + 1, R, T, (a, b) :: r, m, lv, c, h, hR, hk => by
    have h1 := h.pop
    have ha : a ∈ nodes (T ++ [(a, b)]) := by rw [nodes_app]; exact List.mem_append_right _ (by simp [nodes])
    have h00 := h.inn (a, b) (by simp)
    obtain ⟨lv1, h2⟩ := h1.putRow (a := a) (l.getD a.toNat []) R r m lv ha rfl (fun x hx => ⟨(hl _ x hx).1, (hl _ x hx).2, hx⟩)
    obtain ⟨tr, lv2, h3, h4⟩ := bfs_go hl k _ _ _ _ lv1 _ h2 (fun p hp x hx => by
      rcases List.mem_append.1 hp with hp | hp
      · exact .inl (hR p hp x hx)
      · obtain rfl := List.mem_singleton.1 hp
        exact .inr ⟨rfl, hx⟩) (by simp; omega)
    refine ⟨(a, b) :: tr, lv2, ?_, ?_⟩
    · rw [bfs]
      simp only
      rw [h3]; rfl
    · rw [show T ++ (a, b) :: tr = (T ++ [(a, b)]) ++ tr by simp]; exact h4
theorem bfs_is {l : List (List Int)} {first : List Int} (hl : InN l.length l) (hf : ∀ x ∈ first, 0 ≤ x ∧ x < (l.length : Int)) (K : Nat) (hK : l.length < K) :
    ∃ A lv, bfs l K (walkPut first (-1) (List.replicate l.length false, [])).1 (walkPut first (-1) (List.replicate l.length false, [])).2 = some A ∧ BFin l first A lv := by
  have h0 : BInv l first (fun _ => False) (fun _ _ => False) [] [] (List.replicate l.length false) (fun _ => 0) 0 := by
    refine ⟨by simp, by simp, fun x _ => ?_, by simp [nodes], by simp, fun _ _ h => h.elim, fun _ h => h.elim, by simp [nodes], by simp, by simp⟩
    unfold rdOf
    rw [List.getD_eq_getElem?_getD, List.getElem?_replicate]
    split <;> simp [nodes]
  obtain ⟨lv1, h1⟩ := BInv.putFirst first _ [] _ _ h0 (by simp) (fun x hx => ⟨(hf x hx).1, (hf x hx).2, hx⟩)
  obtain ⟨A, lv2, h2, h3⟩ := bfs_go hl K _ [] _ _ lv1 0 (h1.more (fun _ _ h => .inl h) (fun x hx => .inl (.inr hx))) (by simp) (by simpa using hK)
  exact ⟨A, lv2, h2, by simpa using h3⟩
section
variable {l : List (List Int)} {first : List Int} {A : List (Int × Int)} {lv : Int → Nat}
theorem BFin.low (h : BFin l first A lv) : ∀ d x, lay l first d x → x ∈ nodes A ∧ lv x ≤ d
  | 0, x, hx => by have := h.fst x hx; exact ⟨this.1, by omega⟩
  | d + 1, x, ⟨a, h1, h2⟩ => by
    obtain ⟨h3, h4⟩ := h.low d a h1
    obtain ⟨h5, h6⟩ := h.rows a h3 x h2
    exact ⟨h5, by omega⟩
theorem BFin.high (h : BFin l first A lv) : ∀ d x, x ∈ nodes A → lv x = d → lay l first d x
  | 0, x, hx, e => by
    obtain ⟨p, hp, rfl⟩ := of_nodes hx
    rcases h.ent p hp with ⟨_, h2, _⟩ | ⟨_, _, h3⟩
    · exact h2
    · omega
  | d + 1, x, hx, e => by
    obtain ⟨p, hp, rfl⟩ := of_nodes hx
    rcases h.ent p hp with ⟨_, _, h2⟩ | ⟨h1, h2, h3⟩
    · omega
    · exact ⟨p.2, h.high d p.2 h1 (by omega), h2⟩
theorem BFin.mem (h : BFin l first A lv) (x : Int) : x ∈ nodes A ↔ ∃ d, lay l first d x :=
  ⟨fun hx => ⟨_, h.high _ x hx rfl⟩, fun ⟨d, hd⟩ => (h.low d x hd).1⟩
end
def hitRow (mk : List Bool) (all : Bool) (m : Int) : List S59 → Bool
  | [] => false
  | s :: r => (!s.f0 && (s.f1 == m)) || (if all = false ∧ (s.f0 = true ∨ rdOf false mk s.f1 = false) then false else hitRow mk all m r)
def hits (mk : List Bool) (all : Bool) (L : List S51) (n m : Int) : Bool := L.any fun p => decide (p.f0 = n) && hitRow mk all m p.f1
def nxt (mk : List Bool) (all : Bool) (L : List S51) (n : Int) (N : Nat) : List Int := (upTo N).filter fun m => hits mk all L n m
theorem mem_upTo {N : Nat} {x : Int} : x ∈ upTo N ↔ 0 ≤ x ∧ x < (N : Int) := by
  unfold upTo
  rw [List.mem_map]
  constructor
  · rintro ⟨i, hi, rfl⟩
    rw [List.mem_range] at hi
    exact ⟨Int.natCast_nonneg i, Int.ofNat_lt.2 hi⟩
  · rintro ⟨h0, h1⟩
    exact ⟨x.toNat, by rw [List.mem_range]; omega, by show ((x.toNat : Nat) : Int) = x; omega⟩
theorem upTo_nodup (N : Nat) : (upTo N).Nodup := by
  induction N with
  | zero => simp [upTo]
  | succ N ih =>
    rw [upTo_succ]
    exact List.nodup_append.2 ⟨ih, by simp, fun a ha b hb e => by
      have h1 := mem_upTo.1 ha
      have h2 : b = (N : Int) := by simpa using hb
      omega⟩
theorem upTo_drop (N i : Nat) (h : i < N) : (upTo N).drop i = (i : Int) :: (upTo N).drop (i + 1) := by
  rw [List.drop_eq_getElem_cons (by rw [upTo_length]; exact h)]
  congr 1
  simp [upTo]
section
variable (t l : Int) (o : List Int) (L : List S51) (mk : List Bool) (n : Int) (all : Bool)
theorem ev_n2 {m : Int} {i : Nat} (hi : i < L.length) (hL : L.length ≤ 1000) (hr8 : L[i].f1.length ≤ 1000) (hs : ∀ s ∈ L[i].f1, SymOk mk.length s) (out res : List Int) : ∀ (d j : Nat) (is : Bool), j + d = L[i].f1.length →
    Ev (fun k => gramaryeref11_Next.l1 k n all mk out m (is || hitRow mk all m (L[i].f1.drop j)) ((i + 1 : Nat) : Int) t l o L) res →
    Ev (fun k => gramaryeref11_Next.l2 k n all mk out m is (i : Int) (j : Int) t l o L) res
  | 0, j, is, hj, h => by
    refine Ev.step (fun k => ?_) h
    rw [gramaryeref11_Next.l2, if_pos (by omega), if_pos (by omega), rd51 L i hi, if_neg (by omega), w1 i (by omega), List.drop_of_length_le (by omega)]
    simp [hitRow]
  | d + 1, j, is, hj, h => by
    have hjl : j < L[i].f1.length := by omega
    have hk := hs _ (List.getElem_mem hjl)
    have ih := fun is => ev_n2 (m := m) hi hL hr8 hs out res d (j + 1) is (by omega)
    rw [List.drop_eq_getElem_cons hjl, hitRow] at h
    refine Ev.step (f := fun k => gramaryeref11_Next.j3 k n all mk out m is (i : Int) (j : Int) (!L[i].f1[j].f0 && (L[i].f1[j].f1 == m)) t l o L L[i].f1[j].f0 L[i].f1[j].f1) (fun k => ?_) ?_
    · rw [gramaryeref11_Next.l2, if_pos (by omega), if_pos (by omega), rd51 L i hi, if_pos (by omega), if_pos (by omega), rd59 _ j hjl]
      cases L[i].f1[j].f0 <;> rfl
    generalize L[i].f1[j] = s at h hk
    have stop : (all = false ∧ (s.f0 = true ∨ rdOf false mk s.f1 = false)) → Ev (fun k => gramaryeref11_Next.j3 k n all mk out m is (i : Int) (j : Int) (!s.f0 && (s.f1 == m)) t l o L s.f0 s.f1) res := by
      intro hst
      rw [if_pos hst, Bool.or_false] at h
      refine Ev.step (fun k => ?_) h
      rw [gramaryeref11_Next.j3, w1 i (by omega), hst.1]
      cases c : s.f0 with
      | true => simp
      | false =>
        have h0 := hk c
        have h1 := hst.2.resolve_left (by rw [c]; decide)
        rw [h1]
        cases hm : (s.f1 == m) <;> cases is <;> simp [h0.1, h0.2]
    have go : ¬ (all = false ∧ (s.f0 = true ∨ rdOf false mk s.f1 = false)) → Ev (fun k => gramaryeref11_Next.j3 k n all mk out m is (i : Int) (j : Int) (!s.f0 && (s.f1 == m)) t l o L s.f0 s.f1) res := by
      intro hst
      rw [if_neg hst, ← Bool.or_assoc] at h
      refine Ev.step (fun k => ?_) (ih _ h)
      rw [gramaryeref11_Next.j3, w1 j (by omega)]
      cases hall : all with
      | true =>
        cases (!s.f0 && (s.f1 == m)) <;> cases is <;> simp
      | false =>
        have h1 : s.f0 = false := by
          cases c : s.f0 with
          | true => exact absurd ⟨hall, .inl c⟩ hst
          | false => rfl
        have h2 : rdOf false mk s.f1 = true := by
          cases c : rdOf false mk s.f1 with
          | false => exact absurd ⟨hall, .inr c⟩ hst
          | true => rfl
        have h0 := hk h1
        rw [h1, h2]
        cases hm : (s.f1 == m) <;> cases is <;> simp [h0.1, h0.2]
    by_cases hst : all = false ∧ (s.f0 = true ∨ rdOf false mk s.f1 = false)
    · exact stop hst
    · exact go hst
theorem ev_n1 {m : Int} (hm : ∃ i : Nat, m = (i : Int) ∧ i < 1000000) (hL : L.length ≤ 1000) (hr8 : ∀ p ∈ L, p.f1.length ≤ 1000) (hs : ∀ p ∈ L, ∀ s ∈ p.f1, SymOk mk.length s) (out res : List Int) (hout : out.length ≤ 1000000) : ∀ (d i : Nat) (is : Bool), i + d = L.length →
    Ev (fun k => gramaryeref11_Next.l0 k n all mk (if (is || hits mk all (L.drop i) n m) = true then out ++ [m] else out) (m + 1) t l o L) res →
    Ev (fun k => gramaryeref11_Next.l1 k n all mk out m is (i : Int) t l o L) res
  | 0, i, is, hi, h => by
    refine Ev.step (fun k => ?_) h
    obtain ⟨m0, rfl, hm0⟩ := hm
    rw [gramaryeref11_Next.l1, if_neg (by omega), List.drop_of_length_le (by omega), w1 m0 (by omega)]
    have e : (is || hits mk all [] n (m0 : Int)) = is := by simp [hits]
    rw [e]
    cases is with
    | true => rw [if_pos rfl, if_pos rfl, if_pos (by omega)]; rfl
    | false => rw [if_neg (by decide), if_neg (by decide)]; rfl
  | d + 1, i, is, hi, h => by
    have hil : i < L.length := by omega
    have ih := fun is => ev_n1 hm hL hr8 hs out res hout d (i + 1) is (by omega)
    have e : (is || hits mk all (L.drop i) n m) = ((is || (decide (L[i].f0 = n) && hitRow mk all m L[i].f1)) || hits mk all (L.drop (i + 1)) n m) := by
      rw [List.drop_eq_getElem_cons hil]
      unfold hits
      rw [List.any_cons, Bool.or_assoc]
    rw [e] at h
    by_cases c : L[i].f0 = n
    · rw [decide_eq_true c, Bool.true_and] at h
      refine Ev.step (fun k => ?_) (ev_n2 t l o L mk n all hil hL (hr8 _ (List.getElem_mem hil)) (hs _ (List.getElem_mem hil)) out res L[i].f1.length 0 is (by omega) (by rw [List.drop_zero]; exact ih _ h))
      rw [gramaryeref11_Next.l1, if_pos (by omega), if_pos (by omega), rd51 L i hil, if_pos c]; rfl
    · rw [decide_eq_false c, Bool.false_and, Bool.or_false] at h
      refine Ev.step (fun k => ?_) (ih _ h)
      rw [gramaryeref11_Next.l1, if_pos (by omega), if_pos (by omega), rd51 L i hil, if_neg c, w1 i (by omega)]
theorem ev_n0 (ho : o.length ≤ 1000) (hL : L.length ≤ 1000) (hr8 : ∀ p ∈ L, p.f1.length ≤ 1000) (hs : ∀ p ∈ L, ∀ s ∈ p.f1, SymOk mk.length s) : ∀ (d i : Nat) (out : List Int), i + d = o.length → out.length ≤ i →
    Ev (fun k => gramaryeref11_Next.l0 k n all mk out (i : Int) t l o L) (out ++ ((upTo o.length).drop i).filter fun m => hits mk all L n m)
  | 0, i, out, hi, hout => by
    refine ⟨1, fun k hk => ?_⟩
    obtain ⟨k, rfl⟩ : ∃ m, k = m + 1 := ⟨k - 1, by omega⟩
    show gramaryeref11_Next.l0 (k + 1) n all mk out (i : Int) t l o L = _
    rw [gramaryeref11_Next.l0, if_neg (by omega), List.drop_of_length_le (by rw [upTo_length]; omega)]
    simp
  | d + 1, i, out, hi, hout => by
    have ih := fun out' => ev_n0 ho hL hr8 hs d (i + 1) out' (by omega)
    refine Ev.step (f := fun k => gramaryeref11_Next.l1 k n all mk out (i : Int) false 0 t l o L) (fun k => by rw [gramaryeref11_Next.l0, if_pos (by omega)]) ?_
    refine ev_n1 t l o L mk n all ⟨i, rfl, by omega⟩ hL hr8 hs out _ (by omega) L.length 0 false (by omega) ?_
    rw [List.drop_zero, Bool.false_or, upTo_drop _ _ (by omega), List.filter_cons]
    by_cases c : hits mk all L n (i : Int) = true
    · rw [if_pos c, if_pos c]
      have := ih (out ++ [(i : Int)]) (by simp; omega)
      rw [List.append_assoc] at this
      exact this
    · rw [if_neg c, if_neg c]
      exact ih out (by omega)
theorem next_is (ho : o.length ≤ 1000) (hL : L.length ≤ 1000) (hr8 : ∀ p ∈ L, p.f1.length ≤ 1000) (hs : ∀ p ∈ L, ∀ s ∈ p.f1, SymOk mk.length s) (hN : Ev (fun k => gramaryeref10_Nothing.f k t l o L) mk) :
    Ev (fun k => gramaryeref11_Next.f k t l o L n all) (nxt mk all L n o.length) :=
  Ev.bind (f := fun k t170 => gramaryeref11_Next.l0 k n all t170 [] 0 t l o L) hN (by have := ev_n0 t l o L mk n all ho hL hr8 hs o.length 0 [] (by omega) (by simp); rwa [List.drop_zero, List.nil_append] at this)
end
theorem has_l0 (l : List Int) (x : Int) (hl : l.length ≤ 1000000) : ∀ (d i k : Nat), i + d = l.length → d < k → gramaryebase_HasInt.l0 k l x (i : Int) = some (decide (x ∈ l.drop i))
  | 0, i, k, h1, h2 => by
    obtain ⟨k, rfl⟩ : ∃ m, k = m + 1 := ⟨k - 1, by omega⟩
    rw [gramaryebase_HasInt.l0, if_neg (by omega), List.drop_of_length_le (by omega)]
    simp
  | d + 1, i, k, h1, h2 => by
    obtain ⟨k, rfl⟩ : ∃ m, k = m + 1 := ⟨k - 1, by omega⟩
    have hi : i < l.length := by omega
    have hr : rd l (i : Int) = l[i] := by unfold rd; rw [Int.toNat_natCast, List.getD_eq_getElem?_getD, List.getElem?_eq_getElem hi]; rfl
    rw [gramaryebase_HasInt.l0, if_pos (by omega), if_pos (by omega), hr, w1 i (by omega), has_l0 l x hl d (i + 1) k (by omega) (by omega), List.drop_eq_getElem_cons hi]
    by_cases c : l[i] = x
    · rw [if_pos c, ← c]; exact congrArg some (decide_eq_true List.mem_cons_self).symm
    · rw [if_neg c]
      have c' : ¬ x = l[i] := fun e => c e.symm
      have e : x ∈ l[i] :: l.drop (i + 1) ↔ x ∈ l.drop (i + 1) := by rw [List.mem_cons]; exact ⟨fun h => h.resolve_left c', .inr⟩
      simp only [e]
theorem has_is (l : List Int) (x : Int) (hl : l.length ≤ 1000000) (k : Nat) (hk : l.length < k) : gramaryebase_HasInt.f k l x = some (decide (x ∈ l)) := by
  have := has_l0 l x hl l.length 0 k (by omega) hk
  rw [List.drop_zero] at this
  exact this
theorem ev_has (l : List Int) (x : Int) (hl : l.length ≤ 1000000) : Ev (fun k => gramaryebase_HasInt.f k l x) (decide (x ∈ l)) := ⟨l.length + 1, fun k hk => has_is l x hl k (by omega)⟩
def addAll (out xs : List Int) : List Int := xs.foldl (fun o x => if x ∈ o then o else o ++ [x]) out
theorem addAll_ext : ∀ (xs out : List Int), ∃ r, addAll out xs = out ++ r ∧ (∀ x, x ∈ addAll out xs ↔ x ∈ out ∨ x ∈ xs) ∧ (out.Nodup → (addAll out xs).Nodup)
  | [], out => ⟨[], by simp [addAll], by simp [addAll], fun h => h⟩
  | x :: xs, out => by
    have e : addAll out (x :: xs) = addAll (if x ∈ out then out else out ++ [x]) xs := rfl
    by_cases c : x ∈ out
    · rw [e, if_pos c]
      obtain ⟨r, h1, h2, h3⟩ := addAll_ext xs out
      exact ⟨r, h1, fun y => by rw [h2, List.mem_cons]; exact ⟨fun h => h.imp id .inr, fun h => h.elim .inl fun h => h.elim (fun e => .inl (e ▸ c)) .inr⟩, h3⟩
    · rw [e, if_neg c]
      obtain ⟨r, h1, h2, h3⟩ := addAll_ext xs (out ++ [x])
      refine ⟨x :: r, by rw [h1]; simp, fun y => by rw [h2, List.mem_append, List.mem_singleton, List.mem_cons]; exact or_assoc, fun h => h3 (List.nodup_append.2 ⟨h, by simp, fun a ha b hb e => ?_⟩)⟩
      have : b = x := by simpa using hb
      exact c (by rw [← this, ← e]; exact ha)
section
variable (t l : Int) (o : List Int) (L : List S51) (all : Bool) (nx : Int → List Int)
theorem ev_f1 {i : Nat} (hi : i < 100000) (xs res : List Int) (hxs : xs.length ≤ 1000) : ∀ (d j : Nat) (out : List Int), j + d = xs.length → out.length + d ≤ 1000000 → Ev (fun k => gramaryeref11_from.l0 k all (addAll out (xs.drop j)) ((i + 1 : Nat) : Int) t l o L) res →
    Ev (fun k => gramaryeref11_from.l1 k all out (i : Int) xs (j : Int) t l o L) res
  | 0, j, out, hj, ho, h => by
    rw [List.drop_of_length_le (by omega)] at h
    refine Ev.step (fun k => ?_) h
    rw [gramaryeref11_from.l1, if_neg (by omega), w1 i (by omega)]; rfl
  | d + 1, j, out, hj, ho, h => by
    have hjl : j < xs.length := by omega
    have hr : rd xs (j : Int) = xs[j] := by unfold rd; rw [Int.toNat_natCast, List.getD_eq_getElem?_getD, List.getElem?_eq_getElem hjl]; rfl
    rw [List.drop_eq_getElem_cons hjl] at h
    have h' : Ev (fun k => gramaryeref11_from.l0 k all (addAll (if xs[j] ∈ out then out else out ++ [xs[j]]) (xs.drop (j + 1))) ((i + 1 : Nat) : Int) t l o L) res := h
    refine Ev.step (f := fun k => (gramaryebase_HasInt.f k out xs[j]).bind fun b => if b = true then gramaryeref11_from.l1 k all out (i : Int) xs ((j + 1 : Nat) : Int) t l o L else if out.length < 17592186044416 then gramaryeref11_from.l1 k all (out ++ [xs[j]]) (i : Int) xs ((j + 1 : Nat) : Int) t l o L else none) (fun k => by
      rw [gramaryeref11_from.l1, if_pos (by omega), if_pos (by omega), hr, w1 j (by omega)]) ?_
    refine Ev.bind (ev_has out xs[j] (by omega)) ?_
    by_cases c : xs[j] ∈ out
    · rw [if_pos c] at h'
      have := ev_f1 hi xs res hxs d (j + 1) out (by omega) (by omega) h'
      refine Ev.congr (fun k => ?_) this
      rw [decide_eq_true c, if_pos rfl]
    · rw [if_neg c] at h'
      have := ev_f1 hi xs res hxs d (j + 1) (out ++ [xs[j]]) (by omega) (by simp; omega) h'
      refine Ev.congr (fun k => ?_) this
      rw [decide_eq_false c, if_neg (by decide), if_pos (by omega)]
theorem ev_f0 (N : Nat) (hN : N ≤ 1000) (S : Int → Prop) (hnx : ∀ a, 0 ≤ a → a < (N : Int) → Ev (fun k => gramaryeref11_Next.f k t l o L a all) (nx a) ∧ (nx a).length ≤ N ∧ ∀ x ∈ nx a, 0 ≤ x ∧ x < (N : Int) ∧ (S a → S x)) : ∀ (d i : Nat) (out : List Int), N ≤ i + d → i ≤ out.length → out.Nodup → (∀ x ∈ out, 0 ≤ x ∧ x < (N : Int) ∧ S x) → (∀ j, (hj : j < out.length) → j < i → ∀ x ∈ nx out[j], x ∈ out) →
    ∃ r, Ev (fun k => gramaryeref11_from.l0 k all out (i : Int) t l o L) r ∧ (∀ x ∈ out, x ∈ r) ∧ r.length ≤ N ∧ (∀ x ∈ r, 0 ≤ x ∧ x < (N : Int) ∧ S x) ∧ ∀ a ∈ r, ∀ x ∈ nx a, x ∈ r := by
  intro d
  induction d with
  | zero =>
    intro i out h1 h2 h3 h4 h5
    have hle := nodup_le N out h3 (fun x hx => ⟨(h4 x hx).1, (h4 x hx).2.1⟩)
    refine ⟨out, ⟨1, fun k hk => ?_⟩, fun x hx => hx, hle, h4, fun a ha x hx => ?_⟩
    · obtain ⟨k, rfl⟩ : ∃ m, k = m + 1 := ⟨k - 1, by omega⟩
      show gramaryeref11_from.l0 (k + 1) all out (i : Int) t l o L = _
      rw [gramaryeref11_from.l0, if_neg (by omega)]
    · obtain ⟨j, hj, rfl⟩ := List.getElem_of_mem ha
      exact h5 j hj (by omega) x hx
  | succ d ih =>
    intro i out h1 h2 h3 h4 h5
    have hle := nodup_le N out h3 (fun x hx => ⟨(h4 x hx).1, (h4 x hx).2.1⟩)
    by_cases hi : i < out.length
    · have hr : rd out (i : Int) = out[i] := by unfold rd; rw [Int.toNat_natCast, List.getD_eq_getElem?_getD, List.getElem?_eq_getElem hi]; rfl
      have h6 := h4 _ (List.getElem_mem hi)
      obtain ⟨n1, n2, n3⟩ := hnx out[i] h6.1 h6.2.1
      obtain ⟨r1, e1, e2, e3⟩ := addAll_ext (nx out[i]) out
      obtain ⟨r, q1, q2, q3⟩ := ih (i + 1) (addAll out (nx out[i])) (by omega) (by rw [e1, List.length_append]; omega) (e3 h3) (fun x hx => by
        rcases (e2 x).1 hx with h | h
        · exact h4 x h
        · exact ⟨(n3 x h).1, (n3 x h).2.1, (n3 x h).2.2 h6.2.2⟩) (fun j hj hji x hx => by
        have hjo : j < out.length := by omega
        have e4 : (addAll out (nx out[i]))[j] = out[j] := by
          have : (addAll out (nx out[i]))[j]? = out[j]? := by rw [e1, List.getElem?_append_left hjo]
          rw [List.getElem?_eq_getElem hj, List.getElem?_eq_getElem hjo] at this
          exact Option.some.inj this
        rw [e4] at hx
        by_cases e : j = i
        · subst e
          exact (e2 x).2 (.inr hx)
        · exact (e2 x).2 (.inl (h5 j hjo (by omega) x hx)))
      refine ⟨r, ?_, fun x hx => q2 x ((e2 x).2 (.inl hx)), q3⟩
      refine Ev.step (f := fun k => (gramaryeref11_Next.f k t l o L out[i] all).bind fun xs => gramaryeref11_from.l1 k all out (i : Int) xs 0 t l o L) (fun k => by
        rw [gramaryeref11_from.l0, if_pos (by omega), if_pos (by omega), hr]) ?_
      exact Ev.bind (f := fun k xs => gramaryeref11_from.l1 k all out (i : Int) xs 0 t l o L) n1 (ev_f1 t l o L all (by omega) (nx out[i]) r (by omega) (nx out[i]).length 0 out (by omega) (by omega) (by rw [List.drop_zero]; exact q1))
    · refine ⟨out, ⟨1, fun k hk => ?_⟩, fun x hx => hx, hle, h4, fun a ha x hx => ?_⟩
      · obtain ⟨k, rfl⟩ : ∃ m, k = m + 1 := ⟨k - 1, by omega⟩
        show gramaryeref11_from.l0 (k + 1) all out (i : Int) t l o L = _
        rw [gramaryeref11_from.l0, if_neg (by omega)]
      · obtain ⟨j, hj, rfl⟩ := List.getElem_of_mem ha
        exact h5 j hj (by omega) x hx
theorem from_is (N : Nat) (hN : N ≤ 1000) (g : List (List Int)) (first : List Int) (hf : first.Nodup) (hf2 : ∀ x ∈ first, 0 ≤ x ∧ x < (N : Int)) (hnx : ∀ a, 0 ≤ a → a < (N : Int) → Ev (fun k => gramaryeref11_Next.f k t l o L a all) (nx a) ∧ (nx a).length ≤ N ∧ ∀ x, x ∈ nx a ↔ x ∈ g.getD a.toNat []) (hg : ∀ i, ∀ x ∈ g.getD i [], 0 ≤ x ∧ x < (N : Int)) :
    ∃ r, Ev (fun k => gramaryeref11_from.f k t l o L first all) r ∧ r.length ≤ N ∧ ∀ x, x ∈ r ↔ ∃ d, lay g first d x := by
  have hfl := nodup_le N first hf hf2
  obtain ⟨r, h1, h2, h3, h4, h5⟩ := ev_f0 t l o L all nx N hN (fun x => ∃ d, lay g first d x) (fun a a0 a1 => ⟨(hnx a a0 a1).1, (hnx a a0 a1).2.1, fun x hx => by
    have hx' := ((hnx a a0 a1).2.2 x).1 hx
    exact ⟨(hg _ x hx').1, (hg _ x hx').2, fun ⟨d, hd⟩ => ⟨d + 1, a, hd, hx'⟩⟩⟩) N 0 first (by omega) (by omega) hf (fun x hx => ⟨(hf2 x hx).1, (hf2 x hx).2, 0, hx⟩) (fun j _ hj => by omega)
  refine ⟨r, ?_, h3, fun x => ⟨fun hx => (h4 x hx).2.2, fun ⟨d, hd⟩ => ?_⟩⟩
  · have e : gramaryebase_Ints.f first = some first := ints_is _ (by omega)
    refine Ev.congr (fun k => ?_) h1
    show (gramaryebase_Ints.f first).bind _ = _
    rw [e]; rfl
  · have : ∀ d x, lay g first d x → x ∈ r := by
      intro d
      induction d with
      | zero => exact fun x hx => h2 x hx
      | succ d ih =>
        rintro x ⟨a, ha, hx⟩
        have har := ih a ha
        have := h4 a har
        exact h5 a har x (((hnx a this.1 this.2.1).2.2 x).2 hx)
    exact this d x hd
end
def Beg (mk : List Bool) (o : List Int) (L : List S51) (n m : Int) : Prop := ∃ d, lay (begG mk o L) ((begG mk o L).getD n.toNat []) d m
theorem works_is : Ev (fun k => gramaryelaw11_works.f k) true := Ev.of (fun k => gramaryelaw11_works.mono k) (k := 20) (by decide +kernel)
theorem mem_addF (g : List (List Int)) (n m x : Int) (i : Nat) : x ∈ (addF g n m).getD i [] ↔ x ∈ g.getD i [] ∨ (i = n.toNat ∧ i < g.length ∧ x = m) := by
  unfold addF
  by_cases c : m ∈ g.getD n.toNat []
  · rw [if_pos c]
    exact ⟨.inl, fun h => h.elim id fun ⟨e1, _, e2⟩ => by rw [e1, e2]; exact c⟩
  · rw [if_neg c]
    by_cases e : i = n.toNat
    · subst e
      by_cases hl : n.toNat < g.length
      · rw [List.getD_eq_getElem?_getD, List.getElem?_set_self hl]
        simp only [Option.getD_some, List.mem_append, List.mem_singleton]
        exact ⟨fun h => h.imp id fun h => ⟨trivial, hl, h⟩, fun h => h.imp id fun h => h.2.2⟩
      · rw [List.getD_eq_getElem?_getD, List.getElem?_eq_none (by rw [List.length_set]; omega), List.getD_eq_getElem?_getD, List.getElem?_eq_none (by omega)]
        simp [hl]
    · rw [List.getD_eq_getElem?_getD, List.getElem?_set_ne (fun h => e h.symm), ← List.getD_eq_getElem?_getD]
      exact ⟨.inl, fun h => h.elim id fun h => absurd h.1 e⟩
theorem begRow_len (mk : List Bool) (n : Int) : ∀ (r : List S59) (g : List (List Int)), (begRow mk n r g).length = g.length
  | [], g => rfl
  | s :: r, g => by
    rw [begRow]
    split
    · rfl
    · split
      · rw [begRow_len mk n r, addF_length]
      · rw [addF_length]
theorem mem_begRow (mk : List Bool) (n x : Int) (i : Nat) : ∀ (r : List S59) (g : List (List Int)), x ∈ (begRow mk n r g).getD i [] ↔ x ∈ g.getD i [] ∨ (i = n.toNat ∧ i < g.length ∧ hitRow mk false x r = true)
  | [], g => by simp [begRow, hitRow]
  | s :: r, g => by
    rw [begRow, hitRow]
    cases c : s.f0 with
    | true => simp
    | false =>
      rw [if_neg (by decide)]
      have e : (s.f1 == x) = true ↔ x = s.f1 := by rw [beq_iff_eq]; exact ⟨Eq.symm, Eq.symm⟩
      cases d : rdOf false mk s.f1 with
      | true =>
        rw [if_pos rfl, mem_begRow mk n x i r, mem_addF, addF_length]
        simp only [Bool.not_false, Bool.true_and, Bool.or_eq_true, e]
        simp only [true_and, Bool.false_eq_true, false_or, Bool.true_eq_false, if_false]
        exact ⟨fun h => h.elim (fun h => h.imp id fun h => ⟨h.1, h.2.1, .inl h.2.2⟩) fun h => .inr ⟨h.1, h.2.1, .inr h.2.2⟩, fun h => h.elim (fun h => .inl (.inl h)) fun ⟨h1, h2, h3⟩ => h3.elim (fun h => .inl (.inr ⟨h1, h2, h⟩)) fun h => .inr ⟨h1, h2, h⟩⟩
      | false =>
        rw [if_neg (by decide), mem_addF]
        simp only [Bool.not_false, Bool.true_and, Bool.or_eq_true, e]
        simp
theorem mem_begF (mk : List Bool) (x : Int) (i : Nat) : ∀ (L : List S51) (g : List (List Int)), x ∈ (begF mk L g).getD i [] ↔ x ∈ g.getD i [] ∨ (i < g.length ∧ ∃ p ∈ L, i = p.f0.toNat ∧ hitRow mk false x p.f1 = true)
  | [], g => by simp [begF]
  | p :: r, g => by
    rw [begF, mem_begF mk x i r, mem_begRow, begRow_len]
    constructor
    · rintro ((h | ⟨h1, h2, h3⟩) | ⟨h1, q, hq, h2, h3⟩)
      · exact .inl h
      · exact .inr ⟨h2, p, List.mem_cons_self, h1, h3⟩
      · exact .inr ⟨h1, q, List.mem_cons_of_mem _ hq, h2, h3⟩
    · rintro (h | ⟨h1, q, hq, h2, h3⟩)
      · exact .inl (.inl h)
      · rcases List.mem_cons.1 hq with rfl | hq
        · exact .inl (.inr ⟨h2, h1, h3⟩)
        · exact .inr ⟨h1, q, hq, h2, h3⟩
theorem mem_begG {t l : Int} {o : List Int} {L : List S51} (hm : bnf_mayB t l o L = 0) (mk : List Bool) (a x : Int) (a0 : 0 ≤ a) (a1 : a < (o.length : Int)) : x ∈ (begG mk o L).getD a.toNat [] ↔ x ∈ nxt mk false L a o.length := by
  have hin := may_inN hm
  have key : x ∈ (begG mk o L).getD a.toNat [] ↔ ∃ p ∈ L, p.f0 = a ∧ hitRow mk false x p.f1 = true := by
    unfold begG
    rw [mem_begF, List.length_replicate]
    have e : x ∉ (List.replicate o.length ([] : List Int)).getD a.toNat [] := by
      rw [List.getD_eq_getElem?_getD, List.getElem?_replicate]
      split <;> simp
    constructor
    · rintro (h | ⟨h1, p, hp, h2, h3⟩)
      · exact absurd h e
      · exact ⟨p, hp, by have := (hin p hp).1; omega, h3⟩
    · rintro ⟨p, hp, rfl, h3⟩
      exact .inr ⟨by omega, p, hp, rfl, h3⟩
  have hr : x ∈ (begG mk o L).getD a.toNat [] → 0 ≤ x ∧ x < (o.length : Int) := (begG_ok hm mk).1 a.toNat x
  unfold nxt
  rw [List.mem_filter, mem_upTo]
  unfold hits
  rw [List.any_eq_true]
  constructor
  · intro h
    obtain ⟨p, hp, h1, h2⟩ := key.1 h
    exact ⟨hr h, p, hp, by rw [decide_eq_true h1, h2]; rfl⟩
  · rintro ⟨_, p, hp, h⟩
    rw [Bool.and_eq_true, decide_eq_true_iff] at h
    exact key.2 ⟨p, hp, h⟩
theorem nxt_nodup (mk : List Bool) (all : Bool) (L : List S51) (n : Int) (N : Nat) : (nxt mk all L n N).Nodup := (upTo_nodup N).filter _
theorem nxt_in {mk : List Bool} {all : Bool} {L : List S51} {n : Int} {N : Nat} {x : Int} (h : x ∈ nxt mk all L n N) : 0 ≤ x ∧ x < (N : Int) := by
  unfold nxt at h
  exact mem_upTo.1 (List.mem_filter.1 h).1
theorem ref_begins {t l : Int} {o : List Int} {L : List S51} (hm : bnf_mayB t l o L = 0) (hs : Small 40 60 o L) {mk : List Bool} (hmk : mk.length = o.length) (hN : Ev (fun k => gramaryeref10_Nothing.f k t l o L) mk) (n m : Int) (n0 : 0 ≤ n) (n1 : n < (o.length : Int)) :
    ∃ b, Ev (fun k => gramaryeref11_Begins.f k t l o L n m) b ∧ (b = true ↔ Beg mk o L n m) := by
  have hin := may_inN hm
  have ho := hs.o
  have hl := hs.l
  have hok := begG_ok hm mk
  have hnx : ∀ a, Ev (fun k => gramaryeref11_Next.f k t l o L a false) (nxt mk false L a o.length) := fun a =>
    next_is t l o L mk a false (by omega) (by omega) (fun p hp => by have := hs.r p hp; omega) (fun p hp => by rw [hmk]; exact (hin p hp).2.2) hN
  obtain ⟨r, h1, h2, h3⟩ := from_is t l o L false (fun a => nxt mk false L a o.length) o.length (by omega) (begG mk o L) (nxt mk false L n o.length) (nxt_nodup _ _ _ _ _) (fun x hx => nxt_in hx)
    (fun a a0 a1 => ⟨hnx a, nodup_le _ _ (nxt_nodup _ _ _ _ _) (fun x hx => nxt_in hx), fun x => (mem_begG hm mk a x a0 a1).symm⟩) hok.1
  refine ⟨decide (m ∈ r), ?_, ?_⟩
  · exact Ev.bind (f := fun k t201 => (gramaryeref11_from.f k t l o L t201 false).bind fun t204 => (gramaryebase_HasInt.f k t204 m).bind fun t207 => some t207) (hnx n)
      (Ev.bind (f := fun k t204 => (gramaryebase_HasInt.f k t204 m).bind fun t207 => some t207) h1 (Ev.bind (f := fun _ t207 => some t207) (ev_has r m (by omega)) (Ev.now _)))
  · rw [decide_eq_true_iff, h3 m]
    unfold Beg
    exact ⟨fun ⟨d, hd⟩ => ⟨d, (lay_congr (fun x => (mem_begG hm mk n x n0 n1).symm) d m).1 hd⟩, fun ⟨d, hd⟩ => ⟨d, (lay_congr (fun x => (mem_begG hm mk n x n0 n1).symm) d m).2 hd⟩⟩
structure Begun (t l : Int) (o : List Int) (L : List S51) (o' : List Int) (L' : List S51) : Prop where
  few : Ev (fun k => gramaryelaw11_few.f k t l o L) (t, l, o', L')
  few2 : Ev (fun k => gramaryelaw11_few.f k t l o' L') (t, l, o', L')
  small : Small 40 60 o' L'
  may : Ev (fun k => gramaryeref09_May.f k t l o' L') (bnf_mayB t l o' L')
  non : bnf_mayB t l o' L' = 0 → ∃ mk, mk.length = o'.length ∧ empty_Nothing.f t l o' L' = some (mk, 0) ∧ Ev (fun k => gramaryeref10_Nothing.f k t l o' L') mk
theorem begun (t l : Int) (o : List Int) (L : List S51) : ∃ o' L', Begun t l o L o' L' := by
  have hs := few_small 10 20 o L
  have hfew : ∀ k, 20000 ≤ k → gramaryeref09_Few.f k t l o L 10 20 = some (t, l, o.take 10, (L.take 20).map cut8) := fun k hk => few_is 10 20 (by omega) (by omega) t l o L k (by omega)
  have hfew2 : ∀ k, 20000 ≤ k → gramaryeref09_Few.f k t l (o.take 10) ((L.take 20).map cut8) 10 20 = some (t, l, o.take 10, (L.take 20).map cut8) := fun k hk => by
    have := few_is 10 20 (by omega) (by omega) t l (o.take 10) ((L.take 20).map cut8) k (by omega)
    rwa [few_again, List.take_take, Nat.min_self] at this
  generalize o.take 10 = o' at hs hfew hfew2
  generalize (L.take 20).map cut8 = L' at hs hfew hfew2
  have hs' : Small 40 60 o' L' := ⟨by have := hs.o; omega, by have := hs.l; omega, hs.r⟩
  refine ⟨o', L', ⟨20000, fun k hk => ?_⟩, ⟨20000, fun k hk => ?_⟩, hs', ⟨20000, fun k hk => may_is (by omega) (by omega) t l o' L' hs' k hk⟩, fun hm => ?_⟩
  · show gramaryelaw11_few.f k t l o L = _
    unfold gramaryelaw11_few.f
    rw [hfew k hk]; rfl
  · show gramaryelaw11_few.f k t l o' L' = _
    unfold gramaryelaw11_few.f
    rw [hfew2 k hk]; rfl
  · obtain ⟨x, hx, x2, xa, xs⟩ := marks_ok false hm hs'
    obtain ⟨x', ⟨K1, hx'⟩, x2', xa', xs'⟩ := ref_marks false hm hs'
    have ex : x = x' := stateB_eq (by rw [x2, x2']) (fun i => unique xa xs xa' xs' i)
    subst ex
    rw [← is_nothing] at hx
    exact ⟨x, x2, hx, K1, fun k hk => by
      show gramaryeref10_Nothing.f k t l o' L' = _
      unfold gramaryeref10_Nothing.f
      rw [show gramaryeref10_mark.f k t l o' L' false = some x from hx' k hk]; rfl⟩
theorem stop_way (n : Int) : ∀ (A : List (Int × Int)) (st : WaySt), (nodes A).Nodup → n ∈ nodes A →
    ∃ B b C, A = B ++ (n, b) :: C ∧ (stopAt (wayTell n) A st).found = true ∧ (∀ p ∈ B ++ [(n, b)], (stopAt (wayTell n) A st).f p.1 = p.2) ∧ ∀ y, y ∉ nodes (B ++ [(n, b)]) → (stopAt (wayTell n) A st).f y = st.f y
  | [], st, _, h => by cases h
  | (a, b) :: r, st, hn, h => by
    have hn' : a ∉ nodes r ∧ (nodes r).Nodup := List.nodup_cons.1 hn
    rw [stopAt]
    by_cases e : a = n
    · subst e
      have e1 : (wayTell a st a b).2 = false := by unfold wayTell; simp
      rw [e1, if_neg (by decide)]
      refine ⟨[], b, r, rfl, by unfold wayTell; simp, fun p hp => ?_, fun y hy => ?_⟩
      · obtain rfl := List.mem_singleton.1 hp
        unfold wayTell; simp
      · have : y ≠ a := fun e => hy (by rw [e]; simp [nodes])
        unfold wayTell; simp [this]
    · have e1 : (wayTell n st a b).2 = true := by unfold wayTell; simp [e]
      rw [e1, if_pos rfl]
      have hr : n ∈ nodes r := (List.mem_cons.1 h).resolve_left (fun h => e h.symm)
      obtain ⟨B, b', C, h1, h2, h3, h4⟩ := stop_way n r (wayTell n st a b).1 hn'.2 hr
      have hsub : ∀ y, y ∈ nodes (B ++ [(n, b')]) → y ∈ nodes r := fun y hy => by
        rw [h1]
        rw [nodes_app] at hy ⊢
        rcases List.mem_append.1 hy with hy | hy
        · exact List.mem_append_left _ hy
        · exact List.mem_append_right _ (by
            have : y = n := by simpa [nodes] using hy
            rw [this]; exact List.mem_cons_self)
      refine ⟨(a, b) :: B, b', C, by rw [h1]; rfl, h2, fun p hp => ?_, fun y hy => ?_⟩
      · rcases List.mem_cons.1 hp with rfl | hp
        · rw [h4 a (fun h => hn'.1 (hsub a h))]
          unfold wayTell; simp
        · exact h3 p hp
      · have hy2 : y ≠ a ∧ y ∉ nodes (B ++ [(n, b')]) := ⟨fun e => hy (by rw [e]; exact List.mem_cons_self), fun h => hy (List.mem_cons_of_mem _ h)⟩
        rw [h4 y hy2.2]
        unfold wayTell; simp [hy2.1]
theorem stop_no (n : Int) : ∀ (A : List (Int × Int)) (st : WaySt), n ∉ nodes A → st.found = false → (stopAt (wayTell n) A st).found = false
  | [], st, _, h => h
  | (a, b) :: r, st, hn, h => by
    have e : a ≠ n := fun e => hn (by rw [e]; exact List.mem_cons_self)
    rw [stopAt]
    have e1 : (wayTell n st a b).2 = true := by unfold wayTell; simp [e]
    rw [e1, if_pos rfl]
    exact stop_no n r _ (fun h => hn (List.mem_cons_of_mem _ h)) (by unfold wayTell; simp [e])
def Back (l : List (List Int)) (first : List Int) : Int → List Int → Prop
  | y, [] => y ∈ first
  | y, p :: r => 0 ≤ p ∧ p < (l.length : Int) ∧ y ∈ l.getD p.toNat [] ∧ Back l first p r
def Path (l : List (List Int)) : Int → List Int → Prop
  | _, [] => True
  | a, x :: r => (0 ≤ a ∧ a < (l.length : Int)) ∧ x ∈ l.getD a.toNat [] ∧ Path l x r
theorem back_path {l : List (List Int)} {n : Int} (n0 : 0 ≤ n ∧ n < (l.length : Int)) : ∀ (cs : List Int) (y : Int) (tail : List Int), Back l (l.getD n.toNat []) y cs → Path l y tail → Path l n (cs.reverse ++ y :: tail)
  | [], y, tail, h, ht => ⟨n0, h, ht⟩
  | p :: r, y, tail, h, ht => by
    have := back_path n0 r p (y :: tail) h.2.2.2 ⟨⟨h.1, h.2.1⟩, h.2.2.1, ht⟩
    rw [List.reverse_cons, List.append_assoc]
    exact this
theorem way_back {l : List (List Int)} {first : List Int} {A : List (Int × Int)} {lv : Int → Nat} (hA : BFin l first A lv) {n b : Int} {B C : List (Int × Int)} (hd : A = B ++ (n, b) :: C) (f : Int → Int) (hf : ∀ p ∈ B ++ [(n, b)], f p.1 = p.2) : ∀ (d : Nat) (y : Int) (k : Nat) (acc : List Int), y ∈ nodes (B ++ [(n, b)]) → lv y = d → d < k → acc.length + d ≤ 1000000 →
    ∃ cs, cs.length = d ∧ Back l first y cs ∧ wayBack f k (f y) acc = some (acc ++ cs) := by
  have hA2 : A = (B ++ [(n, b)]) ++ C := by rw [hd]; simp
  intro d
  induction d with
  | zero =>
    intro y k acc hy hl hk _
    obtain ⟨k, rfl⟩ : ∃ m, k = m + 1 := ⟨k - 1, by omega⟩
    obtain ⟨p, hp, rfl⟩ := of_nodes hy
    have hpA : p ∈ A := by rw [hA2]; exact List.mem_append_left _ hp
    rcases hA.ent p hpA with ⟨h1, h2, _⟩ | ⟨_, _, h3⟩
    · refine ⟨[], rfl, h2, ?_⟩
      rw [hf p hp, h1, wayBack, if_neg (by omega), List.append_nil]
    · omega
  | succ d ih =>
    intro y k acc hy hl hk hacc
    obtain ⟨k, rfl⟩ : ∃ m, k = m + 1 := ⟨k - 1, by omega⟩
    obtain ⟨p, hp, rfl⟩ := of_nodes hy
    have hpA : p ∈ A := by rw [hA2]; exact List.mem_append_left _ hp
    rcases hA.ent p hpA with ⟨_, _, h2⟩ | ⟨h1, h2, h3⟩
    · omega
    · obtain ⟨q, hq, hqe⟩ := of_nodes h1
      have hin := hA.inn q hq
      rw [hqe] at hin
      have hsrt := hA.srt
      have hpre : p.2 ∈ nodes (B ++ [(n, b)]) := by
        rw [hA2] at hq
        rcases List.mem_append.1 hq with hq | hq
        · rw [← hqe]; exact mem_nodes hq
        · rw [hA2, nodes_app] at hsrt
          have := (List.pairwise_append.1 hsrt).2.2 p.1 (mem_nodes hp) q.1 (mem_nodes hq)
          rw [hqe] at this
          omega
      obtain ⟨cs, c1, c2, c3⟩ := ih p.2 k (acc ++ [p.2]) hpre (by omega) (by omega) (by simp; omega)
      refine ⟨p.2 :: cs, by simp [c1], ⟨hin.1, hin.2, h2, c2⟩, ?_⟩
      rw [hf p hp, wayBack, if_pos (by omega), if_pos (by omega), c3]
      simp
theorem reverse_l0 : ∀ (d : Nat) (x : List Int) (i j k : Nat), i ≤ j + 1 → j + 1 - i ≤ d → j < x.length → x.length ≤ 1000000 → d < k →
    ∃ r, slices_Reverse_int_int.l0 k x (i : Int) (j : Int) = some r ∧ r.length = x.length ∧ ∀ t, r[t]? = if i ≤ t ∧ t ≤ j then x[i + j - t]? else x[t]? := by
  intro d
  induction d with
  | zero =>
    intro x i j k h1 h2 h3 h4 h5
    obtain ⟨k, rfl⟩ : ∃ m, k = m + 1 := ⟨k - 1, by omega⟩
    rw [slices_Reverse_int_int.l0, if_neg (by omega)]
    exact ⟨x, rfl, rfl, fun t => by rw [if_neg (by omega)]⟩
  | succ d ih =>
    intro x i j k h1 h2 h3 h4 h5
    obtain ⟨k, rfl⟩ : ∃ m, k = m + 1 := ⟨k - 1, by omega⟩
    rw [slices_Reverse_int_int.l0]
    by_cases hij : i < j
    · have hrj : rd x (j : Int) = x[j] := by unfold rd; rw [Int.toNat_natCast, List.getD_eq_getElem?_getD, List.getElem?_eq_getElem h3]; rfl
      have hri : rd x (i : Int) = x[i] := by unfold rd; rw [Int.toNat_natCast, List.getD_eq_getElem?_getD, List.getElem?_eq_getElem (by omega)]; rfl
      have hw : wrap64 ((j : Int) - 1) = ((j - 1 : Nat) : Int) := by rw [w64 (by omega) (by omega)]; omega
      rw [if_pos (by omega), if_pos (by omega), if_pos (by omega), if_pos (by omega), if_pos (by omega), hrj, hri, w1 i (by omega), hw, Int.toNat_natCast, Int.toNat_natCast]
      obtain ⟨r, r1, r2, r3⟩ := ih ((x.set i x[j]).set j x[i]) (i + 1) (j - 1) k (by omega) (by omega) (by rw [List.length_set, List.length_set]; omega) (by rw [List.length_set, List.length_set]; omega) (by omega)
      refine ⟨r, r1, by rw [r2, List.length_set, List.length_set], fun t => ?_⟩
      rw [r3 t]
      by_cases c1 : i + 1 ≤ t ∧ t ≤ j - 1
      · rw [if_pos c1, if_pos (by omega), List.getElem?_set_ne (by omega), List.getElem?_set_ne (by omega), show i + 1 + (j - 1) - t = i + j - t by omega]
      · rw [if_neg c1]
        by_cases c2 : t = i
        · subst c2
          rw [List.getElem?_set_ne (by omega), List.getElem?_set_self (by omega), if_pos (by omega), show t + j - t = j by omega, List.getElem?_eq_getElem h3]
        · by_cases c3 : t = j
          · subst c3
            rw [List.getElem?_set_self (by rw [List.length_set]; omega), if_pos (by omega), show i + t - t = i by omega, List.getElem?_eq_getElem (by omega)]
          · rw [List.getElem?_set_ne (fun e => c3 e.symm), List.getElem?_set_ne (fun e => c2 e.symm), if_neg (by omega)]
    · rw [if_neg (by omega)]
      refine ⟨x, rfl, rfl, fun t => ?_⟩
      by_cases c : i ≤ t ∧ t ≤ j
      · rw [if_pos c, show i + j - t = t by omega]
      · rw [if_neg c]
theorem reverse_is (x : List Int) (h0 : 0 < x.length) (hl : x.length ≤ 1000000) (k : Nat) (hk : x.length < k) : slices_Reverse_int_int.f k x = some x.reverse := by
  unfold slices_Reverse_int_int.f
  have hw : wrap64 ((x.length : Int) - 1) = ((x.length - 1 : Nat) : Int) := by rw [w64 (by omega) (by omega)]; omega
  rw [hw]
  obtain ⟨r, r1, r2, r3⟩ := reverse_l0 x.length x 0 (x.length - 1) k (by omega) (by omega) (by omega) hl hk
  rw [show ((0 : Nat) : Int) = 0 from rfl] at r1
  rw [r1]
  congr 1
  apply List.ext_getElem?
  intro t
  rw [r3 t]
  by_cases c : t < x.length
  · rw [if_pos (by omega), List.getElem?_reverse c, show 0 + (x.length - 1) - t = x.length - 1 - t by omega]
  · rw [if_neg (by omega), List.getElem?_eq_none (by omega), List.getElem?_eq_none (by rw [List.length_reverse]; omega)]
theorem wayG_is {l : List (List Int)} (hl : InN l.length l) (hN : l.length ≤ 1000) (n : Int) (n0 : 0 ≤ n ∧ n < (l.length : Int)) (K : Nat) (hK : l.length + 1 < K) :
    ((¬ ∃ d, lay l (l.getD n.toNat []) d n) → wayG l K n = some []) ∧
    ((∃ d, lay l (l.getD n.toNat []) d n) → ∃ d cs, (lay l (l.getD n.toNat []) d n ∧ ∀ d', lay l (l.getD n.toNat []) d' n → d ≤ d') ∧ cs.length = d ∧ d ≤ l.length ∧ Path l n (cs ++ [n]) ∧ wayG l K n = some (n :: (cs ++ [n]))) := by
  obtain ⟨A, lv, h1, h2⟩ := bfs_is hl (first := l.getD n.toNat []) (hl n.toNat) K (by omega)
  have hw : wayG l K n = (some (stopAt (wayTell n) A ⟨fun _ => 0, 0, false⟩)).bind fun st => if st.found = true then (wayBack st.f K (st.f n) [n]).bind fun acc => if acc.length ≤ 1000000 then slices_Reverse_int_int.f (acc.length + 5) (acc ++ [n]) else none else some [] := by
    unfold wayG
    rw [walk_bfs l (wayTell n) K _ _ _ A h1]
  constructor
  · intro hno
    have := stop_no n A ⟨fun _ => 0, 0, false⟩ (fun h => hno ((h2.mem n).1 h)) rfl
    rw [hw, Option.bind_some, this, if_neg (by decide)]
  · intro hex
    have hmem := (h2.mem n).2 hex
    obtain ⟨B, b, C, e1, e2, e3, _⟩ := stop_way n A ⟨fun _ => 0, 0, false⟩ h2.nodup hmem
    have hlow := h2.low
    have hlv : lv n < l.length := by
      have h5 : ∀ d, d ≤ lv n → ∃ y ∈ nodes A, lv y = d := by
        intro d
        induction h : lv n - d generalizing d with
        | zero => exact fun hd => ⟨n, hmem, by omega⟩
        | succ q ih =>
          intro hd
          obtain ⟨y, hy, e⟩ := ih (d + 1) (by omega) (by omega)
          obtain ⟨p, hp, rfl⟩ := of_nodes hy
          rcases h2.ent p hp with ⟨_, _, h6⟩ | ⟨h6, _, h7⟩
          · omega
          · exact ⟨p.2, h6, by omega⟩
      have hc : ∃ Y : Nat → Int, ∀ d, d ≤ lv n → Y d ∈ nodes A ∧ lv (Y d) = d :=
        ⟨fun d => if h : d ≤ lv n then (h5 d h).choose else 0, fun d hd => by
          simp only [dif_pos hd]
          exact (h5 d hd).choose_spec⟩
      obtain ⟨Y, hY⟩ := hc
      have hnd : ((List.range (lv n + 1)).map Y).Nodup := by
        rw [List.nodup_iff_pairwise_ne, List.pairwise_map]
        refine List.Pairwise.imp_of_mem ?_ List.nodup_range
        intro a b ha hb hab e
        have h6 := hY a (by rw [List.mem_range] at ha; omega)
        have h7 := hY b (by rw [List.mem_range] at hb; omega)
        rw [e, h7.2] at h6
        exact hab h6.2.symm
      have := nodup_le l.length _ hnd (fun x hx => by
        obtain ⟨d, hd, rfl⟩ := List.mem_map.1 hx
        obtain ⟨p, hp, e⟩ := of_nodes (hY d (by rw [List.mem_range] at hd; omega)).1
        rw [← e]
        exact h2.inn p hp)
      simp at this
      omega
    obtain ⟨cs, c1, c2, c3⟩ := way_back h2 e1 (stopAt (wayTell n) A ⟨fun _ => 0, 0, false⟩).f e3 (lv n) n K [n] (by rw [nodes_app]; exact List.mem_append_right _ (by simp [nodes])) rfl (by omega) (by simp; omega)
    refine ⟨lv n, cs.reverse, ⟨h2.high _ n hmem rfl, fun d' hd' => (hlow d' n hd').2⟩, by rw [List.length_reverse, c1], by omega, back_path n0 cs n [] c2 trivial, ?_⟩
    rw [hw, Option.bind_some, e2, if_pos rfl, c3, Option.bind_some, if_pos (by simp; omega), reverse_is _ (by simp) (by simp; omega) _ (by simp)]
    simp
theorem way_is {t l : Int} {o : List Int} {L : List S51} (hm : bnf_mayB t l o L = 0) (ho : o.length ≤ 1000) {mk : List Bool} (hmk : mk.length = o.length) (hE : empty_Nothing.f t l o L = some (mk, 0)) (n : Int) :
    (¬ ((0 ≤ n ∧ n < (o.length : Int)) ∧ Beg mk o L n n) → reach_Way.f t l o L n = some []) ∧
    ((0 ≤ n ∧ n < (o.length : Int)) → Beg mk o L n n → ∃ d cs, (lay (begG mk o L) ((begG mk o L).getD n.toNat []) d n ∧ ∀ d', lay (begG mk o L) ((begG mk o L).getD n.toNat []) d' n → d ≤ d') ∧ cs.length = d ∧ d ≤ o.length ∧ Path (begG mk o L) n (cs ++ [n]) ∧ reach_Way.f t l o L n = some (n :: (cs ++ [n]))) := by
  have hok := begG_ok hm mk
  have hw : reach_Way.f t l o L n = if thereB t l o L [n] = true then wayG (begG mk o L) (o.length + 2) n else some [] := by
    unfold reach_Way.f
    rw [hE]
    simp only [Option.bind_some]
    rw [if_pos hmk]
  have e : thereB t l o L [n] = true ↔ 0 ≤ n ∧ n < (o.length : Int) := by
    unfold thereB outB
    rw [decide_eq_true hm, Bool.true_and]
    simp only [List.any_cons, List.any_nil, Bool.or_false, Bool.not_eq_true', Bool.or_eq_false_iff, decide_eq_false_iff_not]
    omega
  by_cases c : thereB t l o L [n] = true
  · have hn := e.1 c
    obtain ⟨w1, w2⟩ := wayG_is (by rw [hok.2]; exact hok.1) (by rw [hok.2]; exact ho) n (by rw [hok.2]; exact hn) (o.length + 2) (by rw [hok.2]; omega)
    rw [hw, if_pos c]
    refine ⟨fun h => w1 (fun hd => h ⟨hn, hd⟩), fun _ hb => ?_⟩
    obtain ⟨d, cs, h1, h2, h3, h4, h5⟩ := w2 hb
    exact ⟨d, cs, h1, h2, by rw [← hok.2]; exact h3, h4, h5⟩
  · rw [hw, if_neg c]
    exact ⟨fun _ => rfl, fun hn => absurd (e.2 hn) c⟩
def addBut (seen out xs : List Int) : List Int := xs.foldl (fun o x => if x ∈ seen then o else if x ∈ o then o else o ++ [x]) out
theorem addBut_is (seen : List Int) : ∀ (xs out : List Int), (∀ x, x ∈ addBut seen out xs ↔ x ∈ out ∨ (x ∈ xs ∧ x ∉ seen)) ∧ (out.Nodup → (addBut seen out xs).Nodup) ∧ (addBut seen out xs).length ≤ out.length + xs.length
  | [], out => ⟨by simp [addBut], fun h => h, by simp [addBut]⟩
  | x :: xs, out => by
    have e : addBut seen out (x :: xs) = addBut seen (if x ∈ seen then out else if x ∈ out then out else out ++ [x]) xs := rfl
    by_cases c1 : x ∈ seen
    · rw [e, if_pos c1]
      obtain ⟨h1, h2, h3⟩ := addBut_is seen xs out
      exact ⟨fun y => by rw [h1, List.mem_cons]; exact ⟨fun h => h.imp id fun h => ⟨.inr h.1, h.2⟩, fun h => h.imp id fun h => ⟨h.1.resolve_left (fun e => h.2 (e ▸ c1)), h.2⟩⟩, h2, by simp only [List.length_cons]; omega⟩
    · rw [e, if_neg c1]
      by_cases c2 : x ∈ out
      · rw [if_pos c2]
        obtain ⟨h1, h2, h3⟩ := addBut_is seen xs out
        exact ⟨fun y => by rw [h1, List.mem_cons]; exact ⟨fun h => h.imp id fun h => ⟨.inr h.1, h.2⟩, fun h => h.elim .inl fun h => h.1.elim (fun e => .inl (e ▸ c2)) fun h' => .inr ⟨h', h.2⟩⟩, h2, by simp only [List.length_cons]; omega⟩
      · rw [if_neg c2]
        obtain ⟨h1, h2, h3⟩ := addBut_is seen xs (out ++ [x])
        refine ⟨fun y => ?_, fun h => h2 (List.nodup_append.2 ⟨h, by simp, fun a ha b hb e => ?_⟩), by simp only [List.length_cons, List.length_append, List.length_nil] at h3 ⊢; omega⟩
        · rw [h1, List.mem_append, List.mem_singleton, List.mem_cons]
          constructor
          · rintro ((h | rfl) | ⟨h, h'⟩)
            · exact .inl h
            · exact .inr ⟨.inl rfl, c1⟩
            · exact .inr ⟨.inr h, h'⟩
          · rintro (h | ⟨rfl | h, h'⟩)
            · exact .inl (.inl h)
            · exact .inl (.inr rfl)
            · exact .inr ⟨h, h'⟩
        · have : b = x := by simpa using hb
          exact c2 (by rw [← this, ← e]; exact ha)
section
variable (t l : Int) (o : List Int) (L : List S51) (m : Int) (nx : Int → List Int)
theorem ev_r2 (now seen : List Int) (step : Int) {i : Nat} (hi : i < 100000) (hsn : seen.length ≤ 1000000) (xs : List Int) (res : Int) (hxs : xs.length ≤ 1000) : ∀ (d j : Nat) (out : List Int), j + d = xs.length → out.length + d ≤ 1000000 → Ev (fun k => gramaryeref11_Far.l1 k m now seen step (addBut seen out (xs.drop j)) ((i + 1 : Nat) : Int) t l o L) res →
    Ev (fun k => gramaryeref11_Far.l2 k m now seen step out (i : Int) xs (j : Int) t l o L) res
  | 0, j, out, hj, ho, h => by
    rw [List.drop_of_length_le (by omega)] at h
    refine Ev.step (fun k => ?_) h
    rw [gramaryeref11_Far.l2, if_neg (by omega), w1 i (by omega)]; rfl
  | d + 1, j, out, hj, ho, h => by
    have hjl : j < xs.length := by omega
    have hr : rd xs (j : Int) = xs[j] := by unfold rd; rw [Int.toNat_natCast, List.getD_eq_getElem?_getD, List.getElem?_eq_getElem hjl]; rfl
    rw [List.drop_eq_getElem_cons hjl] at h
    have h' : Ev (fun k => gramaryeref11_Far.l1 k m now seen step (addBut seen (if xs[j] ∈ seen then out else if xs[j] ∈ out then out else out ++ [xs[j]]) (xs.drop (j + 1))) ((i + 1 : Nat) : Int) t l o L) res := h
    refine Ev.step (f := fun k => (gramaryebase_HasInt.f k seen xs[j]).bind fun b => if b = true then gramaryeref11_Far.l2 k m now seen step out (i : Int) xs ((j + 1 : Nat) : Int) t l o L else (gramaryebase_HasInt.f k out xs[j]).bind fun b => if b = true then gramaryeref11_Far.l2 k m now seen step out (i : Int) xs ((j + 1 : Nat) : Int) t l o L else if out.length < 17592186044416 then gramaryeref11_Far.l2 k m now seen step (out ++ [xs[j]]) (i : Int) xs ((j + 1 : Nat) : Int) t l o L else none) (fun k => by
      rw [gramaryeref11_Far.l2, if_pos (by omega), if_pos (by omega), hr, w1 j (by omega)]) ?_
    refine Ev.bind (ev_has seen xs[j] hsn) ?_
    by_cases c1 : xs[j] ∈ seen
    · rw [if_pos c1] at h'
      refine Ev.congr (fun k => ?_) (ev_r2 now seen step hi hsn xs res hxs d (j + 1) out (by omega) (by omega) h')
      rw [decide_eq_true c1, if_pos rfl]
    · rw [if_neg c1] at h'
      simp only [decide_eq_false c1, Bool.false_eq_true, if_false]
      refine Ev.bind (ev_has out xs[j] (by omega)) ?_
      by_cases c2 : xs[j] ∈ out
      · rw [if_pos c2] at h'
        refine Ev.congr (fun k => ?_) (ev_r2 now seen step hi hsn xs res hxs d (j + 1) out (by omega) (by omega) h')
        rw [decide_eq_true c2, if_pos rfl]
      · rw [if_neg c2] at h'
        refine Ev.congr (fun k => ?_) (ev_r2 now seen step hi hsn xs res hxs d (j + 1) (out ++ [xs[j]]) (by omega) (by simp; omega) h')
        rw [decide_eq_false c2, if_neg (by decide), if_pos (by omega)]
def nextAll (nx : Int → List Int) (seen : List Int) : List Int → List Int → List Int
  | out, [] => out
  | out, a :: r => nextAll nx seen (addBut seen out (nx a)) r
theorem nextAll_is (seen : List Int) : ∀ (now out : List Int), (∀ x, x ∈ nextAll nx seen out now ↔ x ∈ out ∨ ((∃ a ∈ now, x ∈ nx a) ∧ x ∉ seen)) ∧ (out.Nodup → (nextAll nx seen out now).Nodup)
  | [], out => ⟨by simp [nextAll], fun h => h⟩
  | a :: r, out => by
    obtain ⟨a1, a2, _⟩ := addBut_is seen (nx a) out
    obtain ⟨b1, b2⟩ := nextAll_is seen r (addBut seen out (nx a))
    refine ⟨fun x => ?_, fun h => b2 (a2 h)⟩
    rw [nextAll, b1, a1]
    constructor
    · rintro ((h | ⟨h, h'⟩) | ⟨⟨b, hb, h⟩, h'⟩)
      · exact .inl h
      · exact .inr ⟨⟨a, List.mem_cons_self, h⟩, h'⟩
      · exact .inr ⟨⟨b, List.mem_cons_of_mem _ hb, h⟩, h'⟩
    · rintro (h | ⟨⟨b, hb, h⟩, h'⟩)
      · exact .inl (.inl h)
      · rcases List.mem_cons.1 hb with rfl | hb
        · exact .inl (.inr ⟨h, h'⟩)
        · exact .inr ⟨⟨b, hb, h⟩, h'⟩
theorem ev_r1 (N : Nat) (hN : N ≤ 1000) (hnx : ∀ a, 0 ≤ a → a < (N : Int) → Ev (fun k => gramaryeref11_Next.f k t l o L a false) (nx a) ∧ (nx a).length ≤ N ∧ ∀ x ∈ nx a, 0 ≤ x ∧ x < (N : Int)) (now seen : List Int) (step : Int) (hst : ∃ s : Nat, step = (s : Int) ∧ s < 100000) (hsn : seen.length ≤ 1000000) (hnow : now.length ≤ 1000) (hnr : ∀ x ∈ now, 0 ≤ x ∧ x < (N : Int)) (res : Int) :
    ∀ (d i : Nat) (out : List Int), i + d = now.length → out.Nodup → (∀ x ∈ out, 0 ≤ x ∧ x < (N : Int)) → Ev (fun k => gramaryeref11_Far.l0 k m (nextAll nx seen out (now.drop i)) seen (step + 1) t l o L) res →
    Ev (fun k => gramaryeref11_Far.l1 k m now seen step out (i : Int) t l o L) res
  | 0, i, out, hi, hn, ho, h => by
    rw [List.drop_of_length_le (by omega)] at h
    obtain ⟨s, rfl, hs⟩ := hst
    refine Ev.step (fun k => ?_) h
    rw [gramaryeref11_Far.l1, if_neg (by omega), w1 s (by omega)]; rfl
  | d + 1, i, out, hi, hn, ho, h => by
    have hil : i < now.length := by omega
    have hr : rd now (i : Int) = now[i] := by unfold rd; rw [Int.toNat_natCast, List.getD_eq_getElem?_getD, List.getElem?_eq_getElem hil]; rfl
    have h6 := hnr _ (List.getElem_mem hil)
    obtain ⟨n1, n2, n3⟩ := hnx now[i] h6.1 h6.2
    rw [List.drop_eq_getElem_cons hil, nextAll] at h
    have hle := nodup_le N out hn ho
    obtain ⟨a1, a2, a3⟩ := addBut_is seen (nx now[i]) out
    have hin : ∀ x ∈ addBut seen out (nx now[i]), 0 ≤ x ∧ x < (N : Int) := fun x hx => by
      rcases (a1 x).1 hx with h | h
      · exact ho x h
      · exact n3 x h.1
    refine Ev.step (f := fun k => (gramaryeref11_Next.f k t l o L now[i] false).bind fun xs => gramaryeref11_Far.l2 k m now seen step out (i : Int) xs 0 t l o L) (fun k => by
      rw [gramaryeref11_Far.l1, if_pos (by omega), if_pos (by omega), hr]) ?_
    refine Ev.bind (f := fun k xs => gramaryeref11_Far.l2 k m now seen step out (i : Int) xs 0 t l o L) n1 ?_
    refine ev_r2 t l o L m now seen step (by omega) hsn (nx now[i]) res (by omega) (nx now[i]).length 0 out (by omega) (by omega) ?_
    rw [List.drop_zero]
    exact ev_r1 N hN hnx now seen step hst hsn hnow hnr res d (i + 1) _ (by omega) (a2 hn) hin h
theorem ev_r0 (N : Nat) (hN : N ≤ 1000) (g : List (List Int)) (first : List Int) (hnx : ∀ a, 0 ≤ a → a < (N : Int) → Ev (fun k => gramaryeref11_Next.f k t l o L a false) (nx a) ∧ (nx a).length ≤ N ∧ (∀ x ∈ nx a, 0 ≤ x ∧ x < (N : Int)) ∧ ∀ x, x ∈ nx a ↔ x ∈ g.getD a.toNat []) (hfr : ∀ x ∈ first, 0 ≤ x ∧ x < (N : Int)) (hg : ∀ i, ∀ x ∈ g.getD i [], 0 ≤ x ∧ x < (N : Int)) (D : Nat) (hD : lay g first D m) (hD2 : ∀ d, lay g first d m → D ≤ d) (hD3 : D ≤ 1000) :
    ∀ (q j : Nat) (now seen : List Int), j + q = D → now.Nodup → seen.Nodup → (∀ x, x ∈ now ↔ lay g first j x ∧ ∀ i, i < j → ¬ lay g first i x) → (∀ x, x ∈ seen ↔ ∃ i, i < j ∧ lay g first i x) →
    Ev (fun k => gramaryeref11_Far.l0 k m now seen ((j + 1 : Nat) : Int) t l o L) ((D + 1 : Nat) : Int) := by
  have hin : ∀ d x, lay g first d x → 0 ≤ x ∧ x < (N : Int) := fun d x h => by
    cases d with
    | zero => exact hfr x h
    | succ d => obtain ⟨a, _, h⟩ := h; exact hg _ x h
  have hmid : ∀ (e j : Nat) (y : Int), lay g first (j + e) y → (∀ i, i < j + e → ¬ lay g first i y) → ∃ x, lay g first j x ∧ ∀ i, i < j → ¬ lay g first i x := by
    intro e
    induction e with
    | zero => exact fun j y h1 h2 => ⟨y, h1, h2⟩
    | succ e ih =>
      intro j y h1 h2
      obtain ⟨a, ha, hy⟩ := h1
      exact ih j a ha (fun i hi hl => h2 (i + 1) (by omega) ⟨a, hl, hy⟩)
  intro q
  induction q with
  | zero =>
    intro j now seen hj hn1 hn2 hnow hseen
    obtain rfl : j = D := by omega
    have hm : m ∈ now := (hnow m).2 ⟨hD, fun i hi hl => by have := hD2 i hl; omega⟩
    have hlen := nodup_le N now hn1 (fun x hx => hin _ x ((hnow x).1 hx).1)
    have hpos : 0 < now.length := List.length_pos_of_mem hm
    refine ⟨now.length + 2, fun k hk => ?_⟩
    obtain ⟨k, rfl⟩ : ∃ m, k = m + 1 := ⟨k - 1, by omega⟩
    show gramaryeref11_Far.l0 (k + 1) m now seen ((j + 1 : Nat) : Int) t l o L = _
    rw [gramaryeref11_Far.l0, if_pos (by omega), has_is now m (by omega) k (by omega), Option.bind_some, decide_eq_true hm, if_pos rfl]
  | succ q ih =>
    intro j now seen hj hn1 hn2 hnow hseen
    have hm : m ∉ now := fun h => by have := hD2 j ((hnow m).1 h).1; omega
    have hlen := nodup_le N now hn1 (fun x hx => hin _ x ((hnow x).1 hx).1)
    have hslen := nodup_le N seen hn2 (fun x hx => by obtain ⟨i, _, h⟩ := (hseen x).1 hx; exact hin i x h)
    have hpos : 0 < now.length := by
      obtain ⟨x, hx⟩ := hmid (q + 1) j m (by rw [hj]; exact hD) (fun i hi hl => by have := hD2 i hl; omega)
      exact List.length_pos_of_mem ((hnow x).2 hx)
    have hsn : (seen ++ now).Nodup := List.nodup_append.2 ⟨hn2, hn1, fun a ha b hb e => by
      subst e
      obtain ⟨i, hi, h⟩ := (hseen a).1 ha
      exact ((hnow a).1 hb).2 i hi h⟩
    have hsn2 : ∀ x, x ∈ seen ++ now ↔ ∃ i, i < j + 1 ∧ lay g first i x := fun x => by
      rw [List.mem_append, hseen, hnow]
      constructor
      · rintro (⟨i, hi, h⟩ | ⟨h, _⟩)
        · exact ⟨i, by omega, h⟩
        · exact ⟨j, by omega, h⟩
      · rintro ⟨i, hi, h⟩
        rcases Classical.em (∃ i, i < j ∧ lay g first i x) with h' | h'
        · exact .inl h'
        · have : i = j := by
            rcases Nat.lt_or_ge i j with h2 | h2
            · exact absurd ⟨i, h2, h⟩ h'
            · omega
          subst this
          exact .inr ⟨h, fun i' hi' hl => h' ⟨i', hi', hl⟩⟩
    have hnr : ∀ x ∈ now, 0 ≤ x ∧ x < (N : Int) := fun x hx => hin _ x ((hnow x).1 hx).1
    obtain ⟨x1, x2⟩ := nextAll_is nx (seen ++ now) now []
    have key := ih (j + 1) (nextAll nx (seen ++ now) [] now) (seen ++ now) (by omega) (x2 List.nodup_nil) hsn (fun x => by
      rw [x1, hsn2]
      constructor
      · rintro (h | ⟨⟨a, ha, h⟩, h'⟩)
        · cases h
        · have har := hnr a ha
          exact ⟨⟨a, ((hnow a).1 ha).1, ((hnx a har.1 har.2).2.2.2 x).1 h⟩, fun i hi hl => h' ⟨i, hi, hl⟩⟩
      · rintro ⟨⟨a, ha, h⟩, h'⟩
        have har := hin _ a ha
        exact .inr ⟨⟨a, (hnow a).2 ⟨ha, fun i hi hl => h' (i + 1) (by omega) ⟨a, hl, h⟩⟩, ((hnx a har.1 har.2).2.2.2 x).2 h⟩, fun ⟨i, hi, hl⟩ => h' i hi hl⟩) hsn2
    refine Ev.step (f := fun k => (gramaryebase_HasInt.f k now m).bind fun b => if b = true then some ((j + 1 : Nat) : Int) else if seen.length + now.length < 17592186044416 then gramaryeref11_Far.l1 k m now (seen ++ now) ((j + 1 : Nat) : Int) [] 0 t l o L else none) (fun k => by
      rw [gramaryeref11_Far.l0, if_pos (by omega)]) ?_
    refine Ev.bind (ev_has now m (by omega)) ?_
    simp only [decide_eq_false hm, Bool.false_eq_true, if_false]
    simp only [if_pos (show seen.length + now.length < 17592186044416 by omega)]
    refine ev_r1 t l o L m nx N hN (fun a a0 a1 => ⟨(hnx a a0 a1).1, (hnx a a0 a1).2.1, (hnx a a0 a1).2.2.1⟩) now (seen ++ now) _ ⟨j + 1, rfl, by omega⟩ (by rw [List.length_append]; omega) (by omega) hnr _ now.length 0 [] (by omega) List.nodup_nil (by simp) ?_
    rw [List.drop_zero]
    exact key
theorem ev_m0 (N : Nat) (hN : N = o.length) (hN2 : N ≤ 1000) (g : List (List Int)) (hgl : g.length = N) (hnx : ∀ a, 0 ≤ a → a < (N : Int) → Ev (fun k => gramaryeref11_Next.f k t l o L a false) (nx a) ∧ (nx a).length ≤ N ∧ (∀ x ∈ nx a, 0 ≤ x ∧ x < (N : Int)) ∧ ∀ x, x ∈ nx a ↔ x ∈ g.getD a.toNat []) (w : List Int) (hw : w.length ≤ 100000) : ∀ (d i : Nat), i + 1 + d = w.length → (∀ (h : i < w.length), Path g w[i] (w.drop (i + 1))) →
    Ev (fun k => gramaryeref11_May.l0 k w ((i + 1 : Nat) : Int) t l o L) true
  | 0, i, hi, h => by
    refine ⟨1, fun k hk => ?_⟩
    obtain ⟨k, rfl⟩ : ∃ m, k = m + 1 := ⟨k - 1, by omega⟩
    show gramaryeref11_May.l0 (k + 1) w ((i + 1 : Nat) : Int) t l o L = _
    rw [gramaryeref11_May.l0, if_neg (by omega)]
  | d + 1, i, hi, h => by
    have hil : i < w.length := by omega
    have hil1 : i + 1 < w.length := by omega
    have hp := h hil
    rw [List.drop_eq_getElem_cons hil1] at hp
    obtain ⟨h1, h2, h3⟩ := hp
    have hr : rd w (i : Int) = w[i] := by unfold rd; rw [Int.toNat_natCast, List.getD_eq_getElem?_getD, List.getElem?_eq_getElem hil]; rfl
    have hr1 : rd w ((i + 1 : Nat) : Int) = w[i + 1] := by unfold rd; rw [Int.toNat_natCast, List.getD_eq_getElem?_getD, List.getElem?_eq_getElem hil1]; rfl
    have hw1 : wrap64 (((i + 1 : Nat) : Int) - 1) = (i : Int) := by rw [w64 (by omega) (by omega)]; omega
    obtain ⟨n1, n2, n3, n4⟩ := hnx w[i] h1.1 (by rw [← hgl]; exact h1.2)
    refine Ev.step (f := fun k => (gramaryeref11_Next.f k t l o L w[i] false).bind fun xs => (gramaryebase_HasInt.f k xs w[i + 1]).bind fun b => if b = true then gramaryeref11_May.l0 k w ((i + 1 + 1 : Nat) : Int) t l o L else some false) (fun k => by
      rw [gramaryeref11_May.l0, if_pos (by omega), hw1, if_pos (by omega), if_pos (by omega), hr, if_neg (by omega), if_neg (by omega), hr1, w1 (i + 1) (by omega)]
      simp only [if_pos (show (0 : Int) ≤ ((i + 1 : Nat) : Int) by omega)]) ?_
    refine Ev.bind (f := fun k xs => (gramaryebase_HasInt.f k xs w[i + 1]).bind fun b => if b = true then gramaryeref11_May.l0 k w ((i + 1 + 1 : Nat) : Int) t l o L else some false) n1 ?_
    refine Ev.bind (ev_has (nx w[i]) w[i + 1] (by omega)) ?_
    simp only [decide_eq_true ((n4 w[i + 1]).2 h2), if_true]
    exact ev_m0 N hN hN2 g hgl hnx w hw d (i + 1) (by omega) (fun _ => h3)
end
theorem ReachWays : gramaryelaw11_ReachWays.PureG := by
  intro t l o L n _ _ _ _ _
  obtain ⟨o', L', hb⟩ := begun t l o L
  have ho := hb.small.o
  have hl := hb.small.l
  refine Ev.rounds (Ev.bind (f := fun k _ => _) hb.few (Ev.bind (f := fun k _ => _) hb.few2 ?_))
  have none_ : reach_Way.f t l o' L' n = some [] → Ev (fun k => gramaryelaw11_ReachWays.j0 k n [] true t l o' L') true := fun _ => by
    refine Ev.step (f := fun k => (gramaryelaw11_works.f k).bind fun b => some b) (fun k => by rw [gramaryelaw11_ReachWays.j0, if_pos rfl]; rfl) ?_
    exact Ev.bind (f := fun _ x => some x) works_is (Ev.now _)
  by_cases hm : bnf_mayB t l o' L' = 0
  · obtain ⟨mk, hmk, hE, hN⟩ := hb.non hm
    have hin := may_inN hm
    have hok := begG_ok hm mk
    obtain ⟨w1, w2⟩ := way_is hm (by omega) hmk hE n
    have hnx : ∀ a, 0 ≤ a → a < (o'.length : Int) → Ev (fun k => gramaryeref11_Next.f k t l o' L' a false) (nxt mk false L' a o'.length) ∧ (nxt mk false L' a o'.length).length ≤ o'.length ∧ (∀ x ∈ nxt mk false L' a o'.length, 0 ≤ x ∧ x < (o'.length : Int)) ∧ ∀ x, x ∈ nxt mk false L' a o'.length ↔ x ∈ (begG mk o' L').getD a.toNat [] := fun a a0 a1 =>
      ⟨next_is t l o' L' mk a false (by omega) (by omega) (fun p hp => by have := hb.small.r p hp; omega) (fun p hp => by rw [hmk]; exact (hin p hp).2.2) hN, nodup_le _ _ (nxt_nodup _ _ _ _ _) (fun x hx => nxt_in hx), fun x hx => nxt_in hx, fun x => (mem_begG hm mk a x a0 a1).symm⟩
    by_cases hn : 0 ≤ n ∧ n < (o'.length : Int)
    · obtain ⟨b, c1, c2⟩ := ref_begins hm hb.small hmk hN n n hn.1 hn.2
      cases b with
      | false =>
        have hno : ¬ Beg mk o' L' n n := fun h => by have := c2.2 h; cases this
        have e := w1 (fun h => hno h.2)
        simp only [e, Option.bind_some]
        refine Ev.bind (f := fun k t320 => _) hb.may ?_
        simp only [if_pos hm, if_neg (show ¬ n < 0 by omega), if_neg (show ¬ n ≥ (o'.length : Int) by omega)]
        refine Ev.bind (f := fun k q => gramaryelaw11_ReachWays.j0 k n [] (!q) t l o' L') c1 ?_
        exact none_ e
      | true =>
        obtain ⟨d, cs, ⟨h1, h2⟩, h3, h4, h5, h6⟩ := w2 hn (c2.1 rfl)
        simp only [h6, Option.bind_some]
        refine Ev.bind (f := fun k t320 => _) hb.may ?_
        simp only [if_pos hm, if_neg (show ¬ n < 0 by omega), if_neg (show ¬ n ≥ (o'.length : Int) by omega)]
        refine Ev.bind (f := fun k q => gramaryelaw11_ReachWays.j0 k n (n :: (cs ++ [n])) (!q) t l o' L') c1 ?_
        have hlen : (n :: (cs ++ [n])).length = d + 2 := by simp [h3]
        have hmayW : Ev (fun k => gramaryeref11_May.f k t l o' L' n (n :: (cs ++ [n]))) true := by
          refine Ev.bind (f := fun k t263 => _) hb.may ?_
          have hr0 : rd (n :: (cs ++ [n])) 0 = n := rfl
          have hwl : wrap64 (((n :: (cs ++ [n])).length : Int) - 1) = ((d + 1 : Nat) : Int) := by rw [hlen, w64 (by omega) (by omega)]; omega
          have hrl : rd (n :: (cs ++ [n])) ((d + 1 : Nat) : Int) = n := by
            unfold rd
            rw [Int.toNat_natCast, List.getD_eq_getElem?_getD, List.getElem?_cons_succ, ← h3, List.getElem?_append_right (Nat.le_refl _), Nat.sub_self]; rfl
          rw [hwl]
          simp only [if_pos hm, hr0, hrl, hlen, if_neg (show ¬ ((d + 2 : Nat) : Int) < 2 by omega), if_pos (show (0 : Int) < ((d + 2 : Nat) : Int) by omega), if_pos (show (0 : Int) ≤ ((d + 1 : Nat) : Int) by omega), if_pos (show ((d + 1 : Nat) : Int) < ((d + 2 : Nat) : Int) by omega), if_true, bne_self_eq_false]
          refine Ev.step (f := fun k => gramaryeref11_May.l0 k (n :: (cs ++ [n])) 1 t l o' L') (fun k => by rw [gramaryeref11_May.j0, if_neg (by decide)]) ?_
          exact ev_m0 t l o' L' (fun a => nxt mk false L' a o'.length) o'.length rfl (by omega) (begG mk o' L') hok.2 hnx (n :: (cs ++ [n])) (by omega) (d + 1) 0 (by omega) (fun _ => h5)
        have hfar : Ev (fun k => gramaryeref11_Far.f k t l o' L' n n) ((d + 1 : Nat) : Int) := by
          refine Ev.bind (f := fun k t275 => gramaryeref11_Far.l0 k n t275 [] 1 t l o' L') (hnx n hn.1 hn.2).1 ?_
          refine ev_r0 t l o' L' n (fun a => nxt mk false L' a o'.length) o'.length (by omega) (begG mk o' L') ((begG mk o' L').getD n.toNat []) hnx (hok.1 n.toNat) hok.1 d h1 h2 (by omega) d 0 _ [] (by omega) (nxt_nodup _ _ _ _ _) List.nodup_nil (fun x => ?_) (fun x => ⟨(fun h => by cases h), fun ⟨i, hi, _⟩ => by omega⟩)
          rw [(hnx n hn.1 hn.2).2.2.2 x]
          exact ⟨fun h => ⟨h, fun i hi => by omega⟩, fun h => h.1⟩
        refine Ev.step (f := fun k => (gramaryeref11_May.f k t l o' L' n (n :: (cs ++ [n]))).bind fun t323 => (if t323 = true then ((gramaryeref11_Far.f k t l o' L' n n).bind fun t324 => (if ((n :: (cs ++ [n])).length : Int) = (wrap64 (t324 + 1)) then ((gramaryelaw11_works.f k).bind fun t325 => (some t325)) else (some false))) else (some false))) (fun k => by rw [gramaryelaw11_ReachWays.j0, if_neg (by decide)]) ?_
        refine Ev.bind (f := fun k q => if q = true then _ else _) hmayW ?_
        simp only [if_true]
        refine Ev.bind (f := fun k q => if _ = wrap64 (q + 1) then _ else _) hfar ?_
        rw [hlen]
        simp only [if_pos (show ((d + 2 : Nat) : Int) = wrap64 (((d + 1 : Nat) : Int) + 1) by rw [w64 (by omega) (by omega)]; omega)]
        exact Ev.bind (f := fun _ x => some x) works_is (Ev.now _)
    · have e := w1 (fun h => hn h.1)
      simp only [e, Option.bind_some]
      refine Ev.bind (f := fun k t320 => _) hb.may ?_
      simp only [if_pos hm]
      by_cases c : n < 0
      · simp only [if_pos c]
        exact none_ e
      · simp only [if_neg c, if_pos (show n ≥ (o'.length : Int) by omega)]
        exact none_ e
  · have e : reach_Way.f t l o' L' n = some [] := by
      unfold reach_Way.f thereB
      rw [decide_eq_false hm, Bool.false_and, if_neg (by decide)]
    simp only [e, Option.bind_some]
    refine Ev.bind (f := fun k t320 => _) hb.may ?_
    simp only [if_neg hm]
    exact none_ e
end Go.Proofs.Ytmpdilifoblnaaa.Pure
end
section
namespace Go.Proofs.Ytmpdilifoblnaaa.reachWays
open Go.ChangeShapes Go.WideShapes Go.ChangeAt Go.RowKit Go.Proofs.Ytmpdilifoblnaaa.MReachWays Go.Proofs.YtmpdilifoblnaaaW.PrintWords Go.Proofs.Ytmpdilifoblnaaa.Reads
open Go.ChangeMaps (open_string shut_string)
set_option linter.unusedVariables false
set_option linter.unusedSimpArgs false
theorem own : ownKnob Try.prog.godebug = none := by kernel_rfl
theorem laidOut : laidOutB Try.prog = true := by kernel_rfl
set_option maxRecDepth 100000 in
theorem contract (H : Type) (enc : TypeId × Value → H) (W : World) (base : Nat) (args : Array Value) (ds gs : List (DataW H)) (before : List MemPlace)
    (hval : ∀ (j : Nat) t v, Try.f6.params[j]? = some t → args[j]? = some v → Value.okWide Try.prog W .any base t v)
    (hW : DataW.Whole enc Try.prog Try.f6.params.toList Rows.reachWaysSpec.vars false W args.toList ds gs before)
    (hsz : (DataW.weightsEach Try.prog (Try.f6.params.toList ++ Rows.reachWaysSpec.plain.varTypes Try.prog) (ds ++ gs)).all (· ≤ reachBytes) = true) :
    Calls Try.prog 6 args W fun e W' => ∃ v, e = .returned v ∧ Rows.reachWaysSpec.post enc Try.prog Try.f6 false true false false W args v W' := by
  have hW' := hW
  obtain ⟨p, q, hA0, hV, rfl, hfz, hnd⟩ := hW
  have hA : DataW.TrodAll enc Try.prog W 0 (fun _ => true) true Try.f6.params.toList args.toList ds p := hA0
  rw [Try.params6] at hA hval hsz
  obtain ⟨v0, vs0, d0, ds0, p0, q0, hargs, rfl, rfl, h0, r0⟩ := trodAll_cons hA
  obtain ⟨v1, vs1, d1, ds1, p1, q1, rfl, rfl, rfl, h1, r1⟩ := trodAll_cons r0
  obtain ⟨rfl, rfl, rfl⟩ := trodAll_nil r1
  obtain rfl : args = #[v0, v1] := by cases args; simp_all
  obtain ⟨rfl, rfl⟩ := trodVars_none hV
  have k0 := h0
  have lt0 : ∀ x ∈ p0, x.block < W.heap.size := by obtain ⟨m, hm⟩ := k0; exact DataW.trod_lt m _ _ _ hm
  have z0 := weights_at hsz (j := 0) (t := 25) rfl rfl
  obtain ⟨x0, hK0, hG0⟩ := open_at (fits_struct Try.underlying25 (by kernel_rfl) (fitsF_cons 0 (fits_int Try.prog .i64 Try.underlying3) rfl (by kernel_rfl) (fitsF_cons 1 (fits_int Try.prog .i64 Try.underlying3) rfl (by kernel_rfl) (fitsF_cons 2 (fits_slice 3 8 Try.underlying22 (by kernel_rfl) (by kernel_rfl) (fits_int Try.prog .i64 Try.underlying3)) rfl (by kernel_rfl) (fitsF_one 3 (fits_slice 51 32 Try.underlying23 (by kernel_rfl) (by kernel_rfl) fits51) rfl (by kernel_rfl)))))) h0 z0
  have hO0 : ∃ A0_0 c0_0 A0_1 c0_1, v0.cells.toList = [.int .i64 x0.1, .int .i64 x0.2.1, .slice A0_0 x0.2.2.1.length c0_0, .slice A0_1 x0.2.2.2.length c0_1] ∧ x0.2.2.1.length ≤ c0_0 ∧ Kd.C (Kd.int .i64) W A0_0 x0.2.2.1.length x0.2.2.1 ∧ x0.2.2.2.length ≤ c0_1 ∧ Kd.C k51 W A0_1 x0.2.2.2.length x0.2.2.2 := by
    obtain ⟨_, _, hq_, rfl, ⟨_, _, rfl, rfl, ⟨_, _, rfl, ⟨A0_0, c0_0, rfl, l0_0, g0_0⟩, ⟨A0_1, c0_1, rfl, l0_1, g0_1⟩⟩⟩⟩ := hK0
    exact ⟨A0_0, c0_0, A0_1, c0_1, hq_, l0_0, g0_0, l0_1, g0_1⟩
  obtain ⟨A0_0, c0_0, A0_1, c0_1, hcs0, l0_0, g0_0, l0_1, g0_1⟩ := hO0
  obtain ⟨cs0, rfl, hsize0⟩ := okWide_struct Try.underlying25 (hval 0 25 v0 rfl rfl)
  obtain rfl : cs0 = #[.int .i64 x0.1, .int .i64 x0.2.1, .slice A0_0 x0.2.2.1.length c0_0, .slice A0_1 x0.2.2.2.length c0_1] := Array.toList_inj.1 hcs0
  obtain ⟨hG0_0, hG0_1, hG0_2, hG0_3⟩ := hG0
  have k1 := h1
  have lt1 : ∀ x ∈ p1, x.block < W.heap.size := by obtain ⟨m, hm⟩ := k1; exact DataW.trod_lt m _ _ _ hm
  have z1 := weights_at hsz (j := 1) (t := 3) rfl rfl
  obtain ⟨a1, rfl, rfl, rfl, hG1⟩ := open_int Try.underlying3 (hval 1 3 v1 rfl rfl) h1
  clear hA0 hval hsz
  obtain ⟨k, h⟩ := Pure.ReachWays (x0.1) (x0.2.1) (x0.2.2.1) (x0.2.2.2) a1 hG0_0 hG0_1 hG0_2 hG0_3 hG1
  refine (gramaryelaw11_ReachWays.calls k (x0.1) (x0.2.1) A0_0 c0_0 (x0.2.2.1) A0_1 c0_1 (x0.2.2.2) a1 true W g0_0 l0_0 g0_1 l0_1 h).mono fun e W' ⟨he, bel0⟩ => ?_
  have bel : Below W.heap.size W W' := bel0
  subst he
  exact ⟨_, rfl, _, _, _, [], _, [], hW', trodAll_mk1 (shut_bool Try.underlying4 _), (trodAll_cons_mk (Below.trod laidOut (by kernel_rfl) (of_decide_eq_true (by kernel_rfl)) k0 bel lt0) (trodAll_cons_mk (Below.trod laidOut (by kernel_rfl) (of_decide_eq_true (by kernel_rfl)) k1 bel lt1) trodAll_mk0)), rfl, bel.frame _, fun h => by cases h⟩
set_option maxRecDepth 100000 in
theorem lifted (os : Os) (started : os.Started) (H : Type) (enc : TypeId × Value → H) :
    ReturnsInHanded {} Try.checked os 6 .any (Rows.reachWaysSpec.pre6 enc Try.prog Try.f6 Rows.reachWaysRow.domain false) (Rows.reachWaysSpec.post enc Try.prog Try.f6 false true false false) := by
  refine returnsInHanded_of_change_sized (C := Try.checked) own started (by kernel_rfl) Try.func6
    (ChangeSpec.witness6 (enc := enc) (C := Try.checked) false ⟨#[], #[.agg #[.int .i64 0, .int .i64 0, .slice none 0 0, .slice none 0 0], .int .i64 0], []⟩ 8 (by kernel_rfl) (by kernel_rfl) (by kernel_rfl) (by kernel_rfl)) ?_
  intro W base args ds gs before hval hW hcnd hsz _
  exact contract H enc W base args ds gs before hval hW hsz
theorem over : Rows.reachWaysRow.holds Try.pinned (OpenSpec.ofChange Rows.reachWaysSpec) :=
  OpenClaim.holds_of_wide 6 Try.f6 rfl rfl rfl rfl rfl rfl rfl ⟨rfl, rfl, rfl, rfl, rfl⟩ rfl rfl rfl rfl rfl (by kernel_rfl) Try.func6 (by kernel_rfl)
    (of_decide_eq_true (by kernel_rfl)) (by unfold Func.isWrapper; first | (rw [if_pos (by decide +kernel)]; kernel_rfl) | (rw [if_neg (by decide +kernel)]; exact ⟨rfl, rfl⟩))
    (fun os started H enc _ => lifted os started H enc)
theorem proved : Rows.ReachWaysSaid := over
end Go.Proofs.Ytmpdilifoblnaaa.reachWays
namespace Go.Proofs.Ytmpdilifoblnaaa
theorem reachWays_holds : Rows.ReachWaysSaid := reachWays.proved
end Go.Proofs.Ytmpdilifoblnaaa
end
