/-  -/
import Derived.WalkKit
import Derived.ProofKit
import Derived.OpenShut
import Derived.ShutString
import Derived.ChangeOld
import Derived.Below
import Derived.SizedLaws
import Derived.Carry
import Derived.Test.YtmpdilifoblnaaaZReachOverx1
import Derived.Test.YtmpdilifoblnaaaZReachOverBase
import Derived.Test.YtmpdilifoblnaaaZReachOverFix
section
namespace Go.Proofs.Ytmpdilifoblnaaa.Pure
open Go.RowKit Go.Proofs.Ytmpdilifoblnaaa.MReachOver Go.Proofs.YtmpdilifoblnaaaW.PrintWords Go.Proofs.YtmpdilifoblnaaaW.PrintLast Go.Proofs.YtmpdilifoblnaaaW.PrintMore Go.Proofs.Ytmpdilifoblnaaa.Base Go.Proofs.Ytmpdilifoblnaaa.Fix Go.Proofs.Ytmpdilifoblnaaa.Mem
set_option linter.unusedSimpArgs false
set_option linter.unusedVariables false
theorem rd51 (L : List S51) (i : Nat) (h : i < L.length) : rd_T51 L (i : Int) = L[i] := by
  unfold rd_T51
  rw [Int.toNat_natCast, List.getD_eq_getElem?_getD, List.getElem?_eq_getElem h]; rfl
theorem w1 (i : Nat) (h : i < 1000000000) : wrap64 ((i : Int) + 1) = ((i + 1 : Nat) : Int) := by rw [w64 (by omega) (by omega)]; omega
theorem mn_nat (a b : Nat) : mn (a : Int) (b : Int) = ((min a b : Nat) : Int) := by unfold mn; split <;> omega
def cut8 (p : S51) : S51 := ⟨p.f0, p.f1.take 8⟩
theorem few_l0 (P : Nat) (hP : P ≤ 1000) (t l : Int) (o o' : List Int) (L : List S51) (d : Nat) : ∀ (k i : Nat) (acc : List S51), i + d = min P L.length → d < k → acc = (L.take i).map cut8 →
    gramaryeref09_Few.l0 k (P : Int) (i : Int) t l o L t l o' acc = some (t, l, o', (L.take P).map cut8) := by
  induction d with
  | zero =>
    intro k i acc h1 h2 h3
    obtain ⟨k, rfl⟩ : ∃ m, k = m + 1 := ⟨k - 1, by omega⟩
    have e : L.take i = L.take P := by
      rcases Nat.le_total P L.length with h | h
      · rw [show i = P by omega]
      · rw [List.take_of_length_le (by omega), List.take_of_length_le (by omega)]
    rw [gramaryeref09_Few.l0]
    by_cases hi : (i : Int) < (L.length : Int)
    · rw [if_pos hi, if_neg (by omega), h3, e]
    · rw [if_neg hi, h3, e]
  | succ d ih =>
    intro k i acc h1 h2 h3
    obtain ⟨k, rfl⟩ : ∃ m, k = m + 1 := ⟨k - 1, by omega⟩
    have hi : i < L.length := by omega
    have hal : acc.length = i := by rw [h3, List.length_map, List.length_take]; omega
    have hm : mn ((L[i].f1.length : Nat) : Int) 8 = ((min L[i].f1.length 8 : Nat) : Int) := mn_nat _ 8
    have ht : L[i].f1.take (min L[i].f1.length 8) = L[i].f1.take 8 := by
      rcases Nat.le_total L[i].f1.length 8 with h | h
      · rw [Nat.min_eq_left h, List.take_of_length_le (Nat.le_refl _), List.take_of_length_le h]
      · rw [Nat.min_eq_right h]
    rw [gramaryeref09_Few.l0, if_pos (by omega), if_pos (by omega), if_pos (by omega), rd51 L i hi]
    simp only [Option.bind_some]
    rw [hm, if_pos (by omega), if_pos (by omega)]
    simp only [Option.bind_some, Int.toNat_natCast, List.length_nil, List.nil_append]
    have hl8 : (L[i].f1.take (min L[i].f1.length 8)).length ≤ 8 := by rw [List.length_take]; omega
    rw [if_pos (by omega), if_pos (by omega), w1 i (by omega), ht]
    refine ih k (i + 1) _ (by omega) (by omega) ?_
    rw [List.take_succ_eq_append_getElem hi, List.map_append, h3]
    rfl
theorem ints_is (l : List Int) (h : l.length ≤ 1000000) : gramaryebase_Ints.f l = some l := by
  unfold gramaryebase_Ints.f
  simp only [Option.bind_some, List.nil_append]
  rw [if_pos (by simp only [List.length_nil]; omega)]
theorem few_is (N P : Nat) (hN : N ≤ 1000) (hP : P ≤ 1000) (t l : Int) (o : List Int) (L : List S51) (k : Nat) (hk : P < k) :
    gramaryeref09_Few.f k t l o L (N : Int) (P : Int) = some (t, l, o.take N, (L.take P).map cut8) := by
  unfold gramaryeref09_Few.f
  rw [mn_nat, if_pos (by omega), if_pos (by omega)]
  simp only [Int.toNat_natCast]
  have ht : o.take (min o.length N) = o.take N := by
    rcases Nat.le_total o.length N with h | h
    · rw [Nat.min_eq_left h, List.take_of_length_le (Nat.le_refl _), List.take_of_length_le h]
    · rw [Nat.min_eq_right h]
  rw [ht, ints_is _ (by rw [List.length_take]; omega)]
  simp only [Option.bind_some]
  exact few_l0 P hP t l o (o.take N) L (min P L.length) k 0 [] (by omega) (by omega) rfl
structure Small (N P : Nat) (o : List Int) (L : List S51) : Prop where
  o : o.length ≤ N
  l : L.length ≤ P
  r : ∀ p ∈ L, p.f1.length ≤ 8
theorem few_small (N P : Nat) (o : List Int) (L : List S51) : Small N P (o.take N) ((L.take P).map cut8) :=
  ⟨by rw [List.length_take]; omega, by simp; omega, fun p hp => by
    obtain ⟨q, _, rfl⟩ := List.mem_map.1 hp
    unfold cut8; simp; omega⟩
theorem mem_occS {i n m : Int} {l : List S59} : (n, m) ∈ occS i l ↔ m = i ∧ ∃ s ∈ l, s.f0 = false ∧ s.f1 = n := by
  unfold occS
  rw [List.mem_map]
  constructor
  · rintro ⟨s, hs, e⟩
    rw [List.mem_filter] at hs
    simp only [Prod.mk.injEq] at e
    exact ⟨e.2.symm, s, hs.1, by simpa using hs.2, e.1⟩
  · rintro ⟨rfl, s, hs, h0, rfl⟩
    exact ⟨s, List.mem_filter.2 ⟨hs, by simp [h0]⟩, rfl⟩
theorem mem_occ {n m : Int} : ∀ (L : List S51) (i : Int), (n, m) ∈ occ i L ↔ ∃ j : Nat, ∃ h : j < L.length, m = i + j ∧ ∃ s ∈ (L[j]).f1, s.f0 = false ∧ s.f1 = n
  | [], i => by simp [occ]
  | p :: ps, i => by
    simp only [occ, List.mem_append, mem_occS, mem_occ ps (i + 1)]
    constructor
    · rintro (⟨rfl, h⟩ | ⟨j, hj, rfl, h⟩)
      · exact ⟨0, by simp, by omega, h⟩
      · exact ⟨j + 1, by simp; omega, by omega, h⟩
    · rintro ⟨j, hj, rfl, h⟩
      cases j with
      | zero => exact .inl ⟨by omega, h⟩
      | succ j => exact .inr ⟨j, by simp at hj; omega, by omega, h⟩
theorem mem_whoOf {L : List S51} {n m : Int} : m ∈ whoOf (occ 0 L) n ↔ ∃ j : Nat, ∃ h : j < L.length, m = (j : Int) ∧ ∃ s ∈ (L[j]).f1, s.f0 = false ∧ s.f1 = n := by
  unfold whoOf
  rw [List.mem_map]
  constructor
  · rintro ⟨⟨a, b⟩, h, rfl⟩
    rw [List.mem_filter] at h
    have e : a = n := by simpa using h.2
    subst e
    obtain ⟨j, hj, e, hs⟩ := (mem_occ L 0).1 h.1
    exact ⟨j, hj, by simpa using e, hs⟩
  · rintro ⟨j, hj, rfl, hs⟩
    exact ⟨(n, (j : Int)), List.mem_filter.2 ⟨(mem_occ L 0).2 ⟨j, hj, by omega, hs⟩, by simp⟩, rfl⟩
theorem whoOf_len (o : List (Int × Int)) (n : Int) : (whoOf o n).length ≤ o.length := by
  unfold whoOf
  rw [List.length_map]
  exact List.length_filter_le _ _
def InP (n : Nat) (L : List S51) : Prop := ∀ p ∈ L, 0 ≤ p.f0 ∧ p.f0 < (n : Int) ∧ ∀ s ∈ p.f1, SymOk n s
theorem may_inN {t l : Int} {o : List Int} {L : List S51} (h : bnf_mayB t l o L = 0) : InP o.length L := fun p hp =>
  ⟨((bnf_may_ok h).2.2.2 p hp).2.1, ((bnf_may_ok h).2.2.2 p hp).2.2.1, ((bnf_may_ok h).2.2.2 p hp).2.2.2⟩
def isOf (tok : Bool) (s : S59) (m : List Bool) : Bool := if s.f0 = true then tok else rdOf false m s.f1
theorem is_nothing : isNothing = isOf false := by
  funext s m
  unfold isNothing isOf
  cases s.f0 <;> simp
def stB (m : List Bool) : Nat → Nat := fun i => if m.getD i false = true then 0 else 1
def okU (tok : Bool) (u : Nat → Nat) (s : S59) : Bool := if s.f0 = true then tok else decide (u s.f1.toNat = 0)
def valB (tok : Bool) (l : List S59) (u : Nat → Nat) : Nat := if l.all (okU tok u) = true then 0 else 1
def psB (tok : Bool) (L : List S51) : List Pr := L.map fun p => (p.f0.toNat, valB tok p.f1)
theorem psB_length (tok : Bool) (L : List S51) : (psB tok L).length = L.length := by simp [psB]
theorem psB_get (tok : Bool) (L : List S51) (i : Nat) (h : i < L.length) (h' : i < (psB tok L).length) : (psB tok L)[i] = (L[i].f0.toNat, valB tok L[i].f1) := by simp [psB]
theorem getD_rdB (m : List Bool) (x : Int) : m.getD x.toNat false = rdOf false m x := rfl
theorem ok_is (tok : Bool) (m : List Bool) (s : S59) : okU tok (stB m) s = isOf tok s m := by
  unfold okU isOf stB
  rw [getD_rdB]
  by_cases h : s.f0 = true
  · rw [if_pos h, if_pos h]
  · rw [if_neg h, if_neg h]
    cases rdOf false m s.f1 <;> rfl
theorem valB_is (tok : Bool) (l : List S59) (m : List Bool) : valB tok l (stB m) = if l.any (fun s => !isOf tok s m) = true then 1 else 0 := by
  unfold valB
  have e : l.all (okU tok (stB m)) = !(l.any fun s => !isOf tok s m) := by
    rw [List.all_eq_not_any_not]
    congr 2
    funext s
    rw [ok_is]
  rw [e]
  cases l.any (fun s => !isOf tok s m) <;> rfl
theorem valB_mono (tok : Bool) (l : List S59) : Mono1 (valB tok l) := by
  intro u u' h
  unfold valB
  by_cases a : l.all (okU tok u') = true
  · rw [if_pos a, if_pos]
    · exact Nat.le_refl _
    rw [List.all_eq_true] at a ⊢
    intro s hs
    have := a s hs
    unfold okU at this ⊢
    by_cases ht : s.f0 = true
    · rw [if_pos ht] at this ⊢; exact this
    · rw [if_neg ht] at this ⊢
      have hu := h s.f1.toNat
      simp only [decide_eq_true_eq] at this ⊢
      omega
  · rw [if_neg a]
    split <;> omega
theorem allB_upd (tok : Bool) (u : Nat → Nat) (x y : Nat) (l : List S59) (h : ∀ s ∈ l, s.f0 = false → s.f1.toNat ≠ x) : l.all (okU tok (upd u x y)) = l.all (okU tok u) := by
  rw [Bool.eq_iff_iff, List.all_eq_true, List.all_eq_true]
  have e : ∀ s ∈ l, okU tok (upd u x y) s = okU tok u s := by
    intro s hs
    unfold okU
    by_cases ht : s.f0 = true
    · rw [if_pos ht, if_pos ht]
    · have := h s hs (by simpa using ht)
      rw [if_neg ht, if_neg ht, show upd u x y s.f1.toNat = u s.f1.toNat by unfold upd; rw [if_neg this]]
  exact ⟨fun a s hs => by rw [← e s hs]; exact a s hs, fun a s hs => by rw [e s hs]; exact a s hs⟩
theorem stB_set {m : List Bool} {x : Int} (h0 : 0 ≤ x) (h1 : x < (m.length : Int)) : stB (m.set x.toNat true) = upd (stB m) x.toNat 0 := by
  funext j
  have g : (m.set x.toNat true).getD j false = if x.toNat = j then true else m.getD j false := by
    rw [List.getD_eq_getElem?_getD, List.getD_eq_getElem?_getD, List.getElem?_set]
    by_cases e : x.toNat = j
    · subst e
      rw [if_pos rfl, if_pos rfl, if_pos (by omega)]; rfl
    · rw [if_neg e, if_neg e]
  show (if (m.set x.toNat true).getD j false = true then 0 else 1) = (if j = x.toNat then 0 else (if m.getD j false = true then 0 else 1))
  rw [g]
  by_cases e : x.toNat = j
  · rw [if_pos e, if_pos rfl, if_pos e.symm]
  · rw [if_neg e, if_neg (show ¬ j = x.toNat from fun h => e h.symm)]
def u0B : Nat → Nat := fun _ => 1
theorem stB_init (n : Nat) : stB (List.replicate n false) = u0B := by
  funext j
  unfold stB u0B
  rw [List.getD_eq_getElem?_getD, List.getElem?_replicate]
  split <;> rfl
theorem impB (tok : Bool) (l : List S59) (m : List Bool) (x : Int) : valB tok l (stB m) < stB m x.toNat ↔ rdOf false m x = false ∧ l.any (fun s => !isOf tok s m) = false := by
  rw [valB_is]
  unfold stB
  rw [getD_rdB]
  cases l.any (fun s => !isOf tok s m) <;> cases rdOf false m x <;> simp
theorem marks_ok (tok : Bool) {t l : Int} {o : List Int} {L : List S51} (hm : bnf_mayB t l o L = 0) (hs : Small 40 60 o L) :
    ∃ m, empty_marksF (isOf tok) t l o L = some (m, 0) ∧ m.length = o.length ∧ Above (psB tok L) u0B (stB m) ∧ Stable (psB tok L) (stB m) := by
  have hin := may_inN hm
  have hocc : (occ 0 L).length ≤ 500 * L.length := occ_len L 0 (fun p hp => by have := hs.r p hp; omega)
  have hl := hs.l
  have ho := hs.o
  have key : ∃ r, growG (isOf tok) (occ 0 L) L (L.length + o.length * (occ 0 L).length + 1) (List.replicate o.length false) (upTo L.length) = some r ∧ r.length = o.length ∧ Above (psB tok L) u0B (stB r) ∧ Stable (psB tok L) (stB r) := by
    refine work_ends (growG (isOf tok) (occ 0 L) L) stB (fun m => m.length = o.length) (psB tok L) (fun x => whoOf (occ 0 L) (x : Int)) o.length (occ 0 L).length 17592186044416 u0B ?_ ?_ ?_ ?_ ?_ ?_ ?_ _ _ _ ?_ ?_ ?_ ?_ ?_ ?_
    · intro p hp
      obtain ⟨q, _, rfl⟩ := List.mem_map.1 hp
      exact valB_mono tok q.f1
    · intro p hp
      obtain ⟨q, hq, rfl⟩ := List.mem_map.1 hp
      have := hin q hq
      show q.f0.toNat < o.length
      omega
    · intro x
      refine ⟨whoOf_len _ _, fun j hj => ?_⟩
      obtain ⟨j, hj, rfl, _⟩ := mem_whoOf.1 hj
      rw [psB_length]
      omega
    · intro j hj u x y hno
      have hj' : j < L.length := by rwa [psB_length] at hj
      rw [psB_get tok L j hj' hj]
      show valB tok _ _ = valB tok _ _
      unfold valB
      rw [allB_upd tok u x y L[j].f1 (fun s hs h0 e => hno (mem_whoOf.2 ⟨j, hj', rfl, s, hs, h0, by
        have := (hin _ (List.getElem_mem hj')).2.2 s hs h0
        omega⟩))]
    · intro k s; rfl
    · intro k m i hi rest hv himp
      have hi' : i < L.length := by rwa [psB_length] at hi
      rw [psB_get tok L i hi' hi] at himp
      obtain ⟨a0, a1, a2⟩ := hin _ (List.getElem_mem hi')
      simp only at himp
      rw [impB] at himp
      rw [growG, rd51 L i hi', if_pos ⟨by omega, by omega, a0, by omega⟩]
      cases h1 : rdOf false m L[i].f0 with
      | true => rw [if_pos rfl]
      | false =>
        rw [if_neg (by decide)]
        cases h2 : L[i].f1.any (fun s => !isOf tok s m) with
        | true => rw [if_pos rfl]
        | false => exact absurd ⟨h1, h2⟩ himp
    · intro k m i hi rest hv himp hroom
      have hi' : i < L.length := by rwa [psB_length] at hi
      rw [psB_get tok L i hi' hi] at himp hroom ⊢
      obtain ⟨a0, a1, a2⟩ := hin _ (List.getElem_mem hi')
      simp only at himp hroom ⊢
      have himp' := himp
      rw [impB] at himp
      rw [show ((L[i].f0.toNat : Nat) : Int) = L[i].f0 by omega] at hroom ⊢
      refine ⟨m.set L[i].f0.toNat true, by rw [List.length_set]; exact hv, ?_, ?_⟩
      · rw [stB_set a0 (by omega), valB_is, himp.2]; rfl
      · rw [growG, rd51 L i hi', if_pos ⟨by omega, by omega, a0, by omega⟩, himp.1, himp.2, if_neg (by decide), if_neg (by decide), if_pos hroom]
    · simp
    · rw [stB_init]; exact Above.init _ _
    · intro j hj
      unfold upTo at hj
      obtain ⟨i, hi, rfl⟩ := List.mem_map.1 hj
      rw [List.mem_range] at hi
      rw [psB_length]
      show 0 ≤ (i : Int) ∧ (i : Int) < _
      omega
    · intro j hj _
      rw [psB_length] at hj
      unfold upTo
      exact List.mem_map.2 ⟨j, List.mem_range.2 hj, rfl⟩
    · rw [upTo_length, stB_init]
      have h1 := tot_le (u := u0B) (b := 1) (fun i => Nat.le_refl _) o.length
      have h2 := Nat.mul_le_mul_right (occ 0 L).length h1
      rw [Nat.mul_one] at h2
      omega
    · have h3 : o.length * (occ 0 L).length ≤ 40 * 30000 := Nat.mul_le_mul ho (by omega)
      omega
  obtain ⟨r, h1, h2⟩ := key
  refine ⟨r, ?_, h2⟩
  unfold empty_marksF
  rw [if_pos hm, h1]
  rfl
def lay (l : List (List Int)) (first : List Int) : Nat → Int → Prop
  | 0, x => x ∈ first
  | d + 1, x => ∃ a, lay l first d a ∧ x ∈ l.getD a.toNat []
def bfs (l : List (List Int)) : Nat → List Bool → List (Int × Int) → Option (List (Int × Int))
  | 0, _, _ => none
  | _ + 1, _, [] => some []
  | k + 1, m, x :: r => (bfs l k (walkPut (l.getD x.1.toNat []) x.1 (m, r)).1 (walkPut (l.getD x.1.toNat []) x.1 (m, r)).2).map (x :: ·)
def stopAt {σ : Type} (tell : σ → Int → Int → σ × Bool) : List (Int × Int) → σ → σ
  | [], st => st
  | x :: r, st => if (tell st x.1 x.2).2 = true then stopAt tell r (tell st x.1 x.2).1 else (tell st x.1 x.2).1
theorem walk_bfs {σ : Type} (l : List (List Int)) (tell : σ → Int → Int → σ × Bool) : ∀ (k : Nat) (m : List Bool) (q : List (Int × Int)) (st : σ) (tr : List (Int × Int)), bfs l k m q = some tr → walkL l tell k m q st = some (stopAt tell tr st)
  | 0, _, _, _, _, h => by simp [bfs] at h
  | k + 1, m, [], st, tr, h => by rw [bfs] at h; injection h with h; subst h; rfl
  | k + 1, m, x :: r, st, tr, h => by
    rw [bfs] at h
    obtain ⟨t, ht, rfl⟩ := Option.map_eq_some_iff.1 h
    rw [walkL, stopAt]
    by_cases c : (tell st x.1 x.2).2 = true
    · rw [if_pos c, if_pos c]; exact walk_bfs l tell k _ _ _ _ ht
    · rw [if_neg c, if_neg c]
def nodes (A : List (Int × Int)) : List Int := A.map (·.1)
theorem nodes_app (A B : List (Int × Int)) : nodes (A ++ B) = nodes A ++ nodes B := by simp [nodes]
theorem mem_nodes {A : List (Int × Int)} {p : Int × Int} (h : p ∈ A) : p.1 ∈ nodes A := List.mem_map.2 ⟨p, h, rfl⟩
theorem of_nodes {A : List (Int × Int)} {x : Int} (h : x ∈ nodes A) : ∃ p ∈ A, p.1 = x := List.mem_map.1 h
theorem nodup_le : ∀ (n : Nat) (l : List Int), l.Nodup → (∀ x ∈ l, 0 ≤ x ∧ x < (n : Int)) → l.length ≤ n
  | 0, l, _, h => by
    cases l with
    | nil => simp
    | cons x r => have := h x List.mem_cons_self; omega
  | n + 1, l, hn, h => by
    by_cases hm : (n : Int) ∈ l
    · have h1 := nodup_le n (l.erase (n : Int)) (hn.erase _) (fun x hx => by
        have h2 := (hn.mem_erase_iff).1 hx
        have := h x h2.2
        have h3 := h2.1
        omega)
      rw [List.length_erase_of_mem hm] at h1
      omega
    · have := nodup_le n l hn (fun x hx => by
        have h2 := h x hx
        have : x ≠ (n : Int) := fun e => hm (e ▸ hx)
        omega)
      omega
structure BInv (l : List (List Int)) (first : List Int) (F : Int → Prop) (R : Int → Int → Prop) (T q : List (Int × Int)) (m : List Bool) (lv : Int → Nat) (c : Nat) : Prop where
  len : m.length = l.length
  inn : ∀ p ∈ T ++ q, 0 ≤ p.1 ∧ p.1 < (l.length : Int)
  seen : ∀ x, 0 ≤ x → (rdOf false m x = true ↔ x ∈ nodes (T ++ q))
  nodup : (nodes (T ++ q)).Nodup
  ent : ∀ p ∈ T ++ q, (p.2 = -1 ∧ p.1 ∈ first ∧ lv p.1 = 0) ∨ (p.2 ∈ nodes T ∧ p.1 ∈ l.getD p.2.toNat [] ∧ lv p.1 = lv p.2 + 1)
  rows : ∀ a x, R a x → a ∈ nodes T ∧ x ∈ nodes (T ++ q) ∧ lv x ≤ lv a + 1
  fst : ∀ x, F x → x ∈ nodes (T ++ q) ∧ lv x = 0
  srt : (nodes (T ++ q)).Pairwise (fun a b => lv a ≤ lv b)
  rng : ∀ p ∈ q, c ≤ lv p.1 ∧ lv p.1 ≤ c + 1
  told : ∀ p ∈ T, lv p.1 ≤ c
section
variable {l : List (List Int)} {first : List Int} {F : Int → Prop} {R : Int → Int → Prop} {T q : List (Int × Int)} {m : List Bool} {lv : Int → Nat} {c : Nat}
theorem rd_set (m : List Bool) (x y : Int) (x0 : 0 ≤ x) (x1 : x < (m.length : Int)) (y0 : 0 ≤ y) : rdOf false (m.set x.toNat true) y = if y = x then true else rdOf false m y := by
  unfold rdOf
  rw [List.getD_eq_getElem?_getD, List.getD_eq_getElem?_getD, List.getElem?_set]
  by_cases e : y = x
  · subst e
    rw [if_pos rfl, if_pos rfl, if_pos (by omega)]; rfl
  · rw [if_neg e, if_neg (by omega)]
theorem BInv.put (h : BInv l first F R T q m lv c) {x b : Int} {v : Nat} (x0 : 0 ≤ x) (x1 : x < (l.length : Int)) (hb : (b = -1 ∧ x ∈ first ∧ v = 0) ∨ (b ∈ nodes T ∧ x ∈ l.getD b.toNat [] ∧ v = lv b + 1)) (hv : ∀ p ∈ q, lv p.1 ≤ v) (hv1 : c ≤ v) (hv2 : v ≤ c + 1) :
    ∃ lv', BInv l first F R T (putF (m, q) x b).2 (putF (m, q) x b).1 lv' c ∧ x ∈ nodes (T ++ (putF (m, q) x b).2) ∧ lv' x ≤ v ∧ (∀ y ∈ nodes (T ++ q), lv' y = lv y ∧ y ∈ nodes (T ++ (putF (m, q) x b).2)) ∧ (∀ p ∈ (putF (m, q) x b).2, p ∈ q ∨ lv' p.1 = v) := by
  unfold putF
  by_cases hs : rdOf false m x = true
  · rw [if_pos hs]
    have hx := (h.seen x x0).1 hs
    refine ⟨lv, h, hx, ?_, fun y hy => ⟨rfl, hy⟩, fun p hp => .inl hp⟩
    obtain ⟨p, hp, rfl⟩ := of_nodes hx
    rcases List.mem_append.1 hp with hp | hp
    · have := h.told p hp; omega
    · exact hv p hp
  · rw [if_neg hs]
    have hx : x ∉ nodes (T ++ q) := fun e => hs ((h.seen x x0).2 e)
    have hne : ∀ y ∈ nodes (T ++ q), (if y = x then v else lv y) = lv y := fun y hy => if_neg (fun e : y = x => hx (e ▸ hy))
    have hT : ∀ y ∈ nodes T, y ∈ nodes (T ++ q) := fun y hy => by rw [nodes_app]; exact List.mem_append_left _ hy
    have hq : ∀ p ∈ q, p.1 ∈ nodes (T ++ q) := fun p hp => mem_nodes (List.mem_append_right _ hp)
    have happ : T ++ (q ++ [(x, b)]) = (T ++ q) ++ [(x, b)] := by rw [List.append_assoc]
    refine ⟨fun y => if y = x then v else lv y, ⟨?_, ?_, ?_, ?_, ?_, ?_, ?_, ?_, ?_, ?_⟩, ?_, by simp, fun y hy => ⟨hne y hy, by rw [happ, nodes_app]; exact List.mem_append_left _ hy⟩, fun p hp => ?_⟩
    · rw [List.length_set]; exact h.len
    · intro p hp
      rw [happ] at hp
      rcases List.mem_append.1 hp with hp | hp
      · exact h.inn p hp
      · obtain rfl := List.mem_singleton.1 hp
        exact ⟨x0, x1⟩
    · intro y y0
      rw [rd_set m x y x0 (by rw [h.len]; exact x1) y0, happ, nodes_app, List.mem_append]
      by_cases e : y = x
      · rw [if_pos e]
        exact ⟨fun _ => .inr (by rw [e]; simp [nodes]), fun _ => rfl⟩
      · rw [if_neg e, h.seen y y0]
        exact ⟨.inl, fun h' => h'.elim id fun h' => absurd (by simpa [nodes] using h') e⟩
    · rw [happ, nodes_app]
      exact List.nodup_append.2 ⟨h.nodup, by simp [nodes], fun a ha b' hb' e => by
        have : b' = x := by simpa [nodes] using hb'
        exact hx (by rw [← this, ← e]; exact ha)⟩
    · intro p hp
      rw [happ] at hp
      rcases List.mem_append.1 hp with hp | hp
      · rw [hne _ (mem_nodes hp)]
        rcases h.ent p hp with h1 | ⟨h1, h2, h3⟩
        · exact .inl h1
        · exact .inr ⟨h1, h2, by rw [hne _ (hT _ h1)]; exact h3⟩
      · obtain rfl := List.mem_singleton.1 hp
        simp only [if_pos]
        rcases hb with h1 | ⟨h1, h2, h3⟩
        · exact .inl h1
        · exact .inr ⟨h1, h2, by rw [hne _ (hT _ h1)]; exact h3⟩
    · intro a y hr
      obtain ⟨h1, h2, h3⟩ := h.rows a y hr
      refine ⟨h1, by rw [happ, nodes_app]; exact List.mem_append_left _ h2, ?_⟩
      rw [hne _ h2, hne _ (hT _ h1)]; exact h3
    · intro y hf
      obtain ⟨h1, h2⟩ := h.fst y hf
      exact ⟨by rw [happ, nodes_app]; exact List.mem_append_left _ h1, by rw [hne _ h1]; exact h2⟩
    · rw [happ, nodes_app]
      refine List.pairwise_append.2 ⟨?_, by simp [nodes], ?_⟩
      · refine List.Pairwise.imp_of_mem ?_ h.srt
        intro a b' ha hb' hab
        rw [hne _ ha, hne _ hb']; exact hab
      · intro a ha b' hb'
        have e : b' = x := by simpa [nodes] using hb'
        rw [hne _ ha, e, if_pos rfl]
        obtain ⟨p, hp, rfl⟩ := of_nodes ha
        rcases List.mem_append.1 hp with hp | hp
        · have := h.told p hp; omega
        · exact hv p hp
    · intro p hp
      rcases List.mem_append.1 hp with hp | hp
      · rw [hne _ (hq p hp)]; exact h.rng p hp
      · obtain rfl := List.mem_singleton.1 hp
        simp only [if_pos]
        exact ⟨hv1, hv2⟩
    · intro p hp
      rw [hne _ (hT _ (mem_nodes hp))]; exact h.told p hp
    · rw [happ, nodes_app]; exact List.mem_append_right _ (by simp [nodes])
    · rcases List.mem_append.1 hp with hp | hp
      · exact .inl hp
      · obtain rfl := List.mem_singleton.1 hp
        exact .inr (by simp)
theorem BInv.more {F' : Int → Prop} {R' : Int → Int → Prop} (h : BInv l first F R T q m lv c) (hR : ∀ a x, R' a x → R a x ∨ (a ∈ nodes T ∧ x ∈ nodes (T ++ q) ∧ lv x ≤ lv a + 1)) (hF : ∀ x, F' x → F x ∨ (x ∈ nodes (T ++ q) ∧ lv x = 0)) : BInv l first F' R' T q m lv c :=
  ⟨h.len, h.inn, h.seen, h.nodup, h.ent, fun a x hr => (hR a x hr).elim (h.rows a x) id, fun x hf => (hF x hf).elim (h.fst x) id, h.srt, h.rng, h.told⟩
theorem BInv.putRow {a : Int} : ∀ (xs : List Int) (R : Int → Int → Prop) (q : List (Int × Int)) (m : List Bool) (lv : Int → Nat), BInv l first F R T q m lv c → a ∈ nodes T → lv a = c → (∀ x ∈ xs, 0 ≤ x ∧ x < (l.length : Int) ∧ x ∈ l.getD a.toNat []) →
    ∃ lv', BInv l first F (fun b x => R b x ∨ (b = a ∧ x ∈ xs)) T (walkPut xs a (m, q)).2 (walkPut xs a (m, q)).1 lv' c
  | [], R, q, m, lv, h, ha, hc, hx => ⟨lv, h.more (fun b x hr => hr.elim .inl fun h => by cases h.2) (fun x hf => .inl hf)⟩
  | x :: xs, R, q, m, lv, h, ha, hc, hx => by
    obtain ⟨x0, x1, x2⟩ := hx x List.mem_cons_self
    obtain ⟨lv1, h1, h2, h3, h4, _⟩ := h.put x0 x1 (.inr ⟨ha, x2, rfl⟩) (fun p hp => by have := h.rng p hp; omega) (by omega) (by omega)
    have haq : a ∈ nodes (T ++ q) := by rw [nodes_app]; exact List.mem_append_left _ ha
    have hla : lv1 a = lv a := (h4 a haq).1
    have h1' := h1.more (F' := F) (R' := fun b y => R b y ∨ (b = a ∧ y = x)) (fun b y hr => hr.elim .inl fun ⟨e1, e2⟩ => .inr (by subst e1 e2; exact ⟨ha, h2, by omega⟩)) (fun x hf => .inl hf)
    obtain ⟨lv2, h5⟩ := BInv.putRow xs _ _ _ lv1 h1' ha (by omega) (fun y hy => hx y (List.mem_cons_of_mem _ hy))
    exact ⟨lv2, h5.more (fun b y hr => .inl (by
      rcases hr with hr | ⟨e1, hr⟩
      · exact .inl (.inl hr)
      · rcases List.mem_cons.1 hr with e2 | hr
        · exact .inl (.inr ⟨e1, e2⟩)
        · exact .inr ⟨e1, hr⟩)) (fun x hf => .inl hf)⟩
theorem BInv.putFirst : ∀ (xs : List Int) (F : Int → Prop) (q : List (Int × Int)) (m : List Bool) (lv : Int → Nat), BInv l first F R [] q m lv 0 → (∀ p ∈ q, lv p.1 = 0) → (∀ x ∈ xs, 0 ≤ x ∧ x < (l.length : Int) ∧ x ∈ first) →
    ∃ lv', BInv l first (fun x => F x ∨ x ∈ xs) R [] (walkPut xs (-1) (m, q)).2 (walkPut xs (-1) (m, q)).1 lv' 0
  | [], F, q, m, lv, h, h0, hx => ⟨lv, h.more (fun b x hr => .inl hr) (fun x hf => hf.elim .inl fun h => by cases h)⟩
  | x :: xs, F, q, m, lv, h, h0, hx => by
    obtain ⟨x0, x1, x2⟩ := hx x List.mem_cons_self
    obtain ⟨lv1, h1, h2, h3, h4, h5⟩ := h.put x0 x1 (.inl ⟨rfl, x2, rfl⟩) (fun p hp => by have := h0 p hp; omega) (Nat.le_refl _) (by omega)
    have h1' := h1.more (F' := fun y => F y ∨ y = x) (R' := R) (fun b y hr => .inl hr) (fun y hf => hf.elim .inl fun e => .inr (by subst e; exact ⟨h2, by omega⟩))
    obtain ⟨lv2, h6⟩ := BInv.putFirst xs _ _ _ lv1 h1' (fun p hp => by
      rcases h5 p hp with h | h
      · rw [(h4 p.1 (mem_nodes (by simpa using h))).1]; exact h0 p h
      · exact h) (fun y hy => hx y (List.mem_cons_of_mem _ hy))
    exact ⟨lv2, h6.more (fun b y hr => .inl hr) (fun y hr => .inl (by
      rcases hr with hr | hr
      · exact .inl (.inl hr)
      · rcases List.mem_cons.1 hr with e2 | hr
        · exact .inl (.inr e2)
        · exact .inr hr))⟩
theorem BInv.pop {a b : Int} {r : List (Int × Int)} (h : BInv l first F R T ((a, b) :: r) m lv c) : BInv l first F R (T ++ [(a, b)]) r m lv (lv a) := by
  have e : (T ++ [(a, b)]) ++ r = T ++ (a, b) :: r := by simp
  have hT : ∀ y ∈ nodes T, y ∈ nodes (T ++ [(a, b)]) := fun y hy => by rw [nodes_app]; exact List.mem_append_left _ hy
  have h0 := h.rng (a, b) List.mem_cons_self
  refine ⟨h.len, by rw [e]; exact h.inn, by rw [e]; exact h.seen, by rw [e]; exact h.nodup, ?_, ?_, by rw [e]; exact h.fst, by rw [e]; exact h.srt, ?_, ?_⟩
  · rw [e]
    exact fun p hp => (h.ent p hp).elim .inl fun h1 => .inr ⟨hT _ h1.1, h1.2⟩
  · rw [e]
    exact fun a' x hr => ⟨hT _ (h.rows a' x hr).1, (h.rows a' x hr).2⟩
  · intro p hp
    have h1 := h.rng p (List.mem_cons_of_mem _ hp)
    have h2 := h.srt
    rw [nodes_app] at h2
    have h3 := (List.pairwise_append.1 h2).2.1
    have h4 := List.rel_of_pairwise_cons h3 (a' := p.1) (mem_nodes hp)
    simp only at h0 h1 h4 ⊢
    omega
  · intro p hp
    rcases List.mem_append.1 hp with hp | hp
    · have := h.told p hp
      simp only at h0
      omega
    · obtain rfl := List.mem_singleton.1 hp
      exact Nat.le_refl _
end
structure BFin (l : List (List Int)) (first : List Int) (A : List (Int × Int)) (lv : Int → Nat) : Prop where
  inn : ∀ p ∈ A, 0 ≤ p.1 ∧ p.1 < (l.length : Int)
  nodup : (nodes A).Nodup
  ent : ∀ p ∈ A, (p.2 = -1 ∧ p.1 ∈ first ∧ lv p.1 = 0) ∨ (p.2 ∈ nodes A ∧ p.1 ∈ l.getD p.2.toNat [] ∧ lv p.1 = lv p.2 + 1)
  rows : ∀ a ∈ nodes A, ∀ x ∈ l.getD a.toNat [], x ∈ nodes A ∧ lv x ≤ lv a + 1
  fst : ∀ x ∈ first, x ∈ nodes A ∧ lv x = 0
  srt : (nodes A).Pairwise (fun a b => lv a ≤ lv b)
theorem bfs_go {l : List (List Int)} {first : List Int} (hl : InN l.length l) : ∀ (k : Nat) (R : Int → Int → Prop) (T q : List (Int × Int)) (m : List Bool) (lv : Int → Nat) (c : Nat), BInv l first (fun x => x ∈ first) R T q m lv c → (∀ p ∈ T, ∀ x ∈ l.getD p.1.toNat [], R p.1 x) → l.length < k + T.length →
    ∃ tr lv', bfs l k m q = some tr ∧ BFin l first (T ++ tr) lv'
  | 0, R, T, q, m, lv, c, h, hR, hk => by
    have h1 : (nodes T).Nodup := by have := h.nodup; rw [nodes_app] at this; exact (List.nodup_append.1 this).1
    have := nodup_le l.length (nodes T) h1 (fun x hx => by obtain ⟨p, hp, rfl⟩ := of_nodes hx; exact h.inn p (List.mem_append_left _ hp))
    simp [nodes] at this
    omega
  | k + 1, R, T, [], m, lv, c, h, hR, hk => by
    refine ⟨[], lv, rfl, ?_⟩
    have e : T ++ [] = T := List.append_nil T
    refine ⟨h.inn, h.nodup, by rw [e]; have := h.ent; rwa [e] at this, fun a ha x hx => ?_, h.fst, h.srt⟩
    rw [e] at ha
    obtain ⟨p, hp, rfl⟩ := of_nodes ha
    exact (h.rows _ x (hR p hp x hx)).2
  | k + 1, R, T, (a, b) :: r, m, lv, c, h, hR, hk => by
    have h1 := h.pop
    have ha : a ∈ nodes (T ++ [(a, b)]) := by rw [nodes_app]; exact List.mem_append_right _ (by simp [nodes])
    have h00 := h.inn (a, b) (by simp)
    obtain ⟨lv1, h2⟩ := h1.putRow (a := a) (l.getD a.toNat []) R r m lv ha rfl (fun x hx => ⟨(hl _ x hx).1, (hl _ x hx).2, hx⟩)
    obtain ⟨tr, lv2, h3, h4⟩ := bfs_go hl k _ _ _ _ lv1 _ h2 (fun p hp x hx => by
      rcases List.mem_append.1 hp with hp | hp
      · exact .inl (hR p hp x hx)
      · obtain rfl := List.mem_singleton.1 hp
        exact .inr ⟨rfl, hx⟩) (by simp; omega)
    refine ⟨(a, b) :: tr, lv2, ?_, ?_⟩
    · rw [bfs]
      simp only
      rw [h3]; rfl
    · rw [show T ++ (a, b) :: tr = (T ++ [(a, b)]) ++ tr by simp]; exact h4
theorem bfs_is {l : List (List Int)} {first : List Int} (hl : InN l.length l) (hf : ∀ x ∈ first, 0 ≤ x ∧ x < (l.length : Int)) (K : Nat) (hK : l.length < K) :
    ∃ A lv, bfs l K (walkPut first (-1) (List.replicate l.length false, [])).1 (walkPut first (-1) (List.replicate l.length false, [])).2 = some A ∧ BFin l first A lv := by
  have h0 : BInv l first (fun _ => False) (fun _ _ => False) [] [] (List.replicate l.length false) (fun _ => 0) 0 := by
    refine ⟨by simp, by simp, fun x _ => ?_, by simp [nodes], by simp, fun _ _ h => h.elim, fun _ h => h.elim, by simp [nodes], by simp, by simp⟩
    unfold rdOf
    rw [List.getD_eq_getElem?_getD, List.getElem?_replicate]
    split <;> simp [nodes]
  obtain ⟨lv1, h1⟩ := BInv.putFirst first _ [] _ _ h0 (by simp) (fun x hx => ⟨(hf x hx).1, (hf x hx).2, hx⟩)
  obtain ⟨A, lv2, h2, h3⟩ := bfs_go hl K _ [] _ _ lv1 0 (h1.more (fun _ _ h => .inl h) (fun x hx => .inl (.inr hx))) (by simp) (by simpa using hK)
  exact ⟨A, lv2, h2, by simpa using h3⟩
section
variable {l : List (List Int)} {first : List Int} {A : List (Int × Int)} {lv : Int → Nat}
theorem BFin.low (h : BFin l first A lv) : ∀ d x, lay l first d x → x ∈ nodes A ∧ lv x ≤ d
  | 0, x, hx => by have := h.fst x hx; exact ⟨this.1, by omega⟩
  | d + 1, x, ⟨a, h1, h2⟩ => by
    obtain ⟨h3, h4⟩ := h.low d a h1
    obtain ⟨h5, h6⟩ := h.rows a h3 x h2
    exact ⟨h5, by omega⟩
theorem BFin.high (h : BFin l first A lv) : ∀ d x, x ∈ nodes A → lv x = d → lay l first d x
  | 0, x, hx, e => by
    obtain ⟨p, hp, rfl⟩ := of_nodes hx
    rcases h.ent p hp with ⟨_, h2, _⟩ | ⟨_, _, h3⟩
    · exact h2
    · omega
  | d + 1, x, hx, e => by
    obtain ⟨p, hp, rfl⟩ := of_nodes hx
    rcases h.ent p hp with ⟨_, _, h2⟩ | ⟨h1, h2, h3⟩
    · omega
    · exact ⟨p.2, h.high d p.2 h1 (by omega), h2⟩
theorem BFin.mem (h : BFin l first A lv) (x : Int) : x ∈ nodes A ↔ ∃ d, lay l first d x :=
  ⟨fun hx => ⟨_, h.high _ x hx rfl⟩, fun ⟨d, hd⟩ => (h.low d x hd).1⟩
end
theorem stop_to (m : Int) : ∀ A : List (Int × Int), stopAt (toTell m) A false = decide (m ∈ nodes A)
  | [] => rfl
  | x :: r => by
    rw [stopAt]
    show (if (!decide (x.1 = m)) = true then stopAt (toTell m) r (decide (x.1 = m)) else decide (x.1 = m)) = _
    by_cases e : x.1 = m
    · rw [decide_eq_true e, if_neg (by decide)]
      exact (decide_eq_true (by rw [← e]; exact List.mem_cons_self)).symm
    · rw [decide_eq_false e, if_pos (show (!false) = true by decide), stop_to m r]
      have : m ∈ nodes (x :: r) ↔ m ∈ nodes r := by
        show m ∈ x.1 :: nodes r ↔ _
        rw [List.mem_cons]
        exact ⟨fun h => h.elim (fun h => absurd h.symm e) id, .inr⟩
      simp only [this]
theorem to_is {l : List (List Int)} {first : List Int} (hl : InN l.length l) (hf : ∀ x ∈ first, 0 ≤ x ∧ x < (l.length : Int)) (m : Int) (K : Nat) (hK : l.length < K) :
    ∃ r, toF l first m K = some r ∧ (r = true ↔ ∃ d, lay l first d m) := by
  obtain ⟨A, lv, h1, h2⟩ := bfs_is hl hf K hK
  refine ⟨decide (m ∈ nodes A), ?_, by rw [decide_eq_true_iff]; exact h2.mem m⟩
  unfold toF
  rw [walk_bfs l (toTell m) K _ _ false A h1, stop_to]
def Beg (mk : List Bool) (o : List Int) (L : List S51) (n m : Int) : Prop := ∃ d, lay (begG mk o L) ((begG mk o L).getD n.toNat []) d m
theorem to_begins {t l : Int} {o : List Int} {L : List S51} (hm : bnf_mayB t l o L = 0) (mk : List Bool) (n m : Int) : ∃ b, toF (begG mk o L) ((begG mk o L).getD n.toNat []) m (o.length + 2) = some b ∧ (b = true ↔ Beg mk o L n m) := by
  have hok := begG_ok hm mk
  exact to_is (by rw [hok.2]; exact hok.1) (by rw [hok.2]; exact hok.1 n.toNat) m _ (by rw [hok.2]; omega)
theorem works_is : Ev (fun k => gramaryelaw11_works.f k) true := Ev.of (fun k => gramaryelaw11_works.mono k) (k := 20) (by decide +kernel)
theorem begins_is {t l : Int} {o : List Int} {L : List S51} (hm : bnf_mayB t l o L = 0) {mk : List Bool} (hmk : mk.length = o.length) (hE : empty_Nothing.f t l o L = some (mk, 0)) (n m : Int) :
    ∃ b, reach_Begins.f t l o L n m = some b ∧ (b = true ↔ (0 ≤ n ∧ n < (o.length : Int)) ∧ (0 ≤ m ∧ m < (o.length : Int)) ∧ Beg mk o L n m) := by
  unfold reach_Begins.f
  have e : thereB t l o L [n, m] = true ↔ (0 ≤ n ∧ n < (o.length : Int)) ∧ (0 ≤ m ∧ m < (o.length : Int)) := by
    unfold thereB outB
    rw [decide_eq_true hm, Bool.true_and]
    simp only [List.any_cons, List.any_nil, Bool.or_false, Bool.not_eq_true', Bool.or_eq_false_iff, decide_eq_false_iff_not]
    omega
  by_cases c : thereB t l o L [n, m] = true
  · rw [if_pos c, hE]
    simp only [Option.bind_some]
    rw [if_pos hmk]
    obtain ⟨b, h1, h2⟩ := to_begins hm mk n m
    exact ⟨b, h1, by rw [h2]; exact ⟨fun h => ⟨(e.1 c).1, (e.1 c).2, h⟩, fun h => h.2.2⟩⟩
  · rw [if_neg c]
    exact ⟨false, rfl, ⟨(fun h => by cases h), fun h => absurd (e.2 ⟨h.1, h.2.1⟩) c⟩⟩
theorem stop_way (n : Int) : ∀ (A : List (Int × Int)) (st : WaySt), (nodes A).Nodup → n ∈ nodes A →
    ∃ B b C, A = B ++ (n, b) :: C ∧ (stopAt (wayTell n) A st).found = true ∧ (∀ p ∈ B ++ [(n, b)], (stopAt (wayTell n) A st).f p.1 = p.2) ∧ ∀ y, y ∉ nodes (B ++ [(n, b)]) → (stopAt (wayTell n) A st).f y = st.f y
  | [], st, _, h => by cases h
  | (a, b) :: r, st, hn, h => by
    have hn' : a ∉ nodes r ∧ (nodes r).Nodup := List.nodup_cons.1 hn
    rw [stopAt]
    by_cases e : a = n
    · subst e
      have e1 : (wayTell a st a b).2 = false := by unfold wayTell; simp
      rw [e1, if_neg (by decide)]
      refine ⟨[], b, r, rfl, by unfold wayTell; simp, fun p hp => ?_, fun y hy => ?_⟩
      · obtain rfl := List.mem_singleton.1 hp
        unfold wayTell; simp
      · have : y ≠ a := fun e => hy (by rw [e]; simp [nodes])
        unfold wayTell; simp [this]
    · have e1 : (wayTell n st a b).2 = true := by unfold wayTell; simp [e]
      rw [e1, if_pos rfl]
      have hr : n ∈ nodes r := (List.mem_cons.1 h).resolve_left (fun h => e h.symm)
      obtain ⟨B, b', C, h1, h2, h3, h4⟩ := stop_way n r (wayTell n st a b).1 hn'.2 hr
      have hsub : ∀ y, y ∈ nodes (B ++ [(n, b')]) → y ∈ nodes r := fun y hy => by
        rw [h1]
        rw [nodes_app] at hy ⊢
        rcases List.mem_append.1 hy with hy | hy
        · exact List.mem_append_left _ hy
        · exact List.mem_append_right _ (by
            have : y = n := by simpa [nodes] using hy
            rw [this]; exact List.mem_cons_self)
      refine ⟨(a, b) :: B, b', C, by rw [h1]; rfl, h2, fun p hp => ?_, fun y hy => ?_⟩
      · rcases List.mem_cons.1 hp with rfl | hp
        · rw [h4 a (fun h => hn'.1 (hsub a h))]
          unfold wayTell; simp
        · exact h3 p hp
      · have hy2 : y ≠ a ∧ y ∉ nodes (B ++ [(n, b')]) := ⟨fun e => hy (by rw [e]; exact List.mem_cons_self), fun h => hy (List.mem_cons_of_mem _ h)⟩
        rw [h4 y hy2.2]
        unfold wayTell; simp [hy2.1]
theorem stop_no (n : Int) : ∀ (A : List (Int × Int)) (st : WaySt), n ∉ nodes A → st.found = false → (stopAt (wayTell n) A st).found = false
  | [], st, _, h => h
  | (a, b) :: r, st, hn, h => by
    have e : a ≠ n := fun e => hn (by rw [e]; exact List.mem_cons_self)
    rw [stopAt]
    have e1 : (wayTell n st a b).2 = true := by unfold wayTell; simp [e]
    rw [e1, if_pos rfl]
    exact stop_no n r _ (fun h => hn (List.mem_cons_of_mem _ h)) (by unfold wayTell; simp [e])
def Back (l : List (List Int)) (first : List Int) : Int → List Int → Prop
  | y, [] => y ∈ first
  | y, p :: r => 0 ≤ p ∧ p < (l.length : Int) ∧ y ∈ l.getD p.toNat [] ∧ Back l first p r
def Path (l : List (List Int)) : Int → List Int → Prop
  | _, [] => True
  | a, x :: r => (0 ≤ a ∧ a < (l.length : Int)) ∧ x ∈ l.getD a.toNat [] ∧ Path l x r
theorem back_path {l : List (List Int)} {n : Int} (n0 : 0 ≤ n ∧ n < (l.length : Int)) : ∀ (cs : List Int) (y : Int) (tail : List Int), Back l (l.getD n.toNat []) y cs → Path l y tail → Path l n (cs.reverse ++ y :: tail)
  | [], y, tail, h, ht => ⟨n0, h, ht⟩
  | p :: r, y, tail, h, ht => by
    have := back_path n0 r p (y :: tail) h.2.2.2 ⟨⟨h.1, h.2.1⟩, h.2.2.1, ht⟩
    rw [List.reverse_cons, List.append_assoc]
    exact this
theorem way_back {l : List (List Int)} {first : List Int} {A : List (Int × Int)} {lv : Int → Nat} (hA : BFin l first A lv) {n b : Int} {B C : List (Int × Int)} (hd : A = B ++ (n, b) :: C) (f : Int → Int) (hf : ∀ p ∈ B ++ [(n, b)], f p.1 = p.2) : ∀ (d : Nat) (y : Int) (k : Nat) (acc : List Int), y ∈ nodes (B ++ [(n, b)]) → lv y = d → d < k → acc.length + d ≤ 1000000 →
    ∃ cs, cs.length = d ∧ Back l first y cs ∧ wayBack f k (f y) acc = some (acc ++ cs) := by
  have hA2 : A = (B ++ [(n, b)]) ++ C := by rw [hd]; simp
  intro d
  induction d with
  | zero =>
    intro y k acc hy hl hk _
    obtain ⟨k, rfl⟩ : ∃ m, k = m + 1 := ⟨k - 1, by omega⟩
    obtain ⟨p, hp, rfl⟩ := of_nodes hy
    have hpA : p ∈ A := by rw [hA2]; exact List.mem_append_left _ hp
    rcases hA.ent p hpA with ⟨h1, h2, _⟩ | ⟨_, _, h3⟩
    · refine ⟨[], rfl, h2, ?_⟩
      rw [hf p hp, h1, wayBack, if_neg (by omega), List.append_nil]
    · omega
  | succ d ih =>
    intro y k acc hy hl hk hacc
    obtain ⟨k, rfl⟩ : ∃ m, k = m + 1 := ⟨k - 1, by omega⟩
    obtain ⟨p, hp, rfl⟩ := of_nodes hy
    have hpA : p ∈ A := by rw [hA2]; exact List.mem_append_left _ hp
    rcases hA.ent p hpA with ⟨_, _, h2⟩ | ⟨h1, h2, h3⟩
    · omega
    · obtain ⟨q, hq, hqe⟩ := of_nodes h1
      have hin := hA.inn q hq
      rw [hqe] at hin
      have hsrt := hA.srt
      have hpre : p.2 ∈ nodes (B ++ [(n, b)]) := by
        rw [hA2] at hq
        rcases List.mem_append.1 hq with hq | hq
        · rw [← hqe]; exact mem_nodes hq
        · rw [hA2, nodes_app] at hsrt
          have := (List.pairwise_append.1 hsrt).2.2 p.1 (mem_nodes hp) q.1 (mem_nodes hq)
          rw [hqe] at this
          omega
      obtain ⟨cs, c1, c2, c3⟩ := ih p.2 k (acc ++ [p.2]) hpre (by omega) (by omega) (by simp; omega)
      refine ⟨p.2 :: cs, by simp [c1], ⟨hin.1, hin.2, h2, c2⟩, ?_⟩
      rw [hf p hp, wayBack, if_pos (by omega), if_pos (by omega), c3]
      simp
theorem reverse_l0 : ∀ (d : Nat) (x : List Int) (i j k : Nat), i ≤ j + 1 → j + 1 - i ≤ d → j < x.length → x.length ≤ 1000000 → d < k →
    ∃ r, slices_Reverse_int_int.l0 k x (i : Int) (j : Int) = some r ∧ r.length = x.length ∧ ∀ t, r[t]? = if i ≤ t ∧ t ≤ j then x[i + j - t]? else x[t]? := by
  intro d
  induction d with
  | zero =>
    intro x i j k h1 h2 h3 h4 h5
    obtain ⟨k, rfl⟩ : ∃ m, k = m + 1 := ⟨k - 1, by omega⟩
    rw [slices_Reverse_int_int.l0, if_neg (by omega)]
    exact ⟨x, rfl, rfl, fun t => by rw [if_neg (by omega)]⟩
  | succ d ih =>
    intro x i j k h1 h2 h3 h4 h5
    obtain ⟨k, rfl⟩ : ∃ m, k = m + 1 := ⟨k - 1, by omega⟩
    rw [slices_Reverse_int_int.l0]
    by_cases hij : i < j
    · have hrj : rd x (j : Int) = x[j] := by unfold rd; rw [Int.toNat_natCast, List.getD_eq_getElem?_getD, List.getElem?_eq_getElem h3]; rfl
      have hri : rd x (i : Int) = x[i] := by unfold rd; rw [Int.toNat_natCast, List.getD_eq_getElem?_getD, List.getElem?_eq_getElem (by omega)]; rfl
      have hw : wrap64 ((j : Int) - 1) = ((j - 1 : Nat) : Int) := by rw [w64 (by omega) (by omega)]; omega
      rw [if_pos (by omega), if_pos (by omega), if_pos (by omega), if_pos (by omega), if_pos (by omega), hrj, hri, w1 i (by omega), hw, Int.toNat_natCast, Int.toNat_natCast]
      obtain ⟨r, r1, r2, r3⟩ := ih ((x.set i x[j]).set j x[i]) (i + 1) (j - 1) k (by omega) (by omega) (by rw [List.length_set, List.length_set]; omega) (by rw [List.length_set, List.length_set]; omega) (by omega)
      refine ⟨r, r1, by rw [r2, List.length_set, List.length_set], fun t => ?_⟩
      rw [r3 t]
      by_cases c1 : i + 1 ≤ t ∧ t ≤ j - 1
      · rw [if_pos c1, if_pos (by omega), List.getElem?_set_ne (by omega), List.getElem?_set_ne (by omega), show i + 1 + (j - 1) - t = i + j - t by omega]
      · rw [if_neg c1]
        by_cases c2 : t = i
        · subst c2
          rw [List.getElem?_set_ne (by omega), List.getElem?_set_self (by omega), if_pos (by omega), show t + j - t = j by omega, List.getElem?_eq_getElem h3]
        · by_cases c3 : t = j
          · subst c3
            rw [List.getElem?_set_self (by rw [List.length_set]; omega), if_pos (by omega), show i + t - t = i by omega, List.getElem?_eq_getElem (by omega)]
          · rw [List.getElem?_set_ne (fun e => c3 e.symm), List.getElem?_set_ne (fun e => c2 e.symm), if_neg (by omega)]
    · rw [if_neg (by omega)]
      refine ⟨x, rfl, rfl, fun t => ?_⟩
      by_cases c : i ≤ t ∧ t ≤ j
      · rw [if_pos c, show i + j - t = t by omega]
      · rw [if_neg c]
theorem reverse_is (x : List Int) (h0 : 0 < x.length) (hl : x.length ≤ 1000000) (k : Nat) (hk : x.length < k) : slices_Reverse_int_int.f k x = some x.reverse := by
  unfold slices_Reverse_int_int.f
  have hw : wrap64 ((x.length : Int) - 1) = ((x.length - 1 : Nat) : Int) := by rw [w64 (by omega) (by omega)]; omega
  rw [hw]
  obtain ⟨r, r1, r2, r3⟩ := reverse_l0 x.length x 0 (x.length - 1) k (by omega) (by omega) (by omega) hl hk
  rw [show ((0 : Nat) : Int) = 0 from rfl] at r1
  rw [r1]
  congr 1
  apply List.ext_getElem?
  intro t
  rw [r3 t]
  by_cases c : t < x.length
  · rw [if_pos (by omega), List.getElem?_reverse c, show 0 + (x.length - 1) - t = x.length - 1 - t by omega]
  · rw [if_neg (by omega), List.getElem?_eq_none (by omega), List.getElem?_eq_none (by rw [List.length_reverse]; omega)]
theorem wayG_is {l : List (List Int)} (hl : InN l.length l) (hN : l.length ≤ 1000) (n : Int) (n0 : 0 ≤ n ∧ n < (l.length : Int)) (K : Nat) (hK : l.length + 1 < K) :
    ((¬ ∃ d, lay l (l.getD n.toNat []) d n) → wayG l K n = some []) ∧
    ((∃ d, lay l (l.getD n.toNat []) d n) → ∃ d cs, (lay l (l.getD n.toNat []) d n ∧ ∀ d', lay l (l.getD n.toNat []) d' n → d ≤ d') ∧ cs.length = d ∧ d ≤ l.length ∧ Path l n (cs ++ [n]) ∧ wayG l K n = some (n :: (cs ++ [n]))) := by
  obtain ⟨A, lv, h1, h2⟩ := bfs_is hl (first := l.getD n.toNat []) (hl n.toNat) K (by omega)
  have hw : wayG l K n = (some (stopAt (wayTell n) A ⟨fun _ => 0, 0, false⟩)).bind fun st => if st.found = true then (wayBack st.f K (st.f n) [n]).bind fun acc => if acc.length ≤ 1000000 then slices_Reverse_int_int.f (acc.length + 5) (acc ++ [n]) else none else some [] := by
    unfold wayG
    rw [walk_bfs l (wayTell n) K _ _ _ A h1]
  constructor
  · intro hno
    have := stop_no n A ⟨fun _ => 0, 0, false⟩ (fun h => hno ((h2.mem n).1 h)) rfl
    rw [hw, Option.bind_some, this, if_neg (by decide)]
  · intro hex
    have hmem := (h2.mem n).2 hex
    obtain ⟨B, b, C, e1, e2, e3, _⟩ := stop_way n A ⟨fun _ => 0, 0, false⟩ h2.nodup hmem
    have hlow := h2.low
    have hlv : lv n < l.length := by
      have h5 : ∀ d, d ≤ lv n → ∃ y ∈ nodes A, lv y = d := by
        intro d
        induction h : lv n - d generalizing d with
        | zero => exact fun hd => ⟨n, hmem, by omega⟩
        | succ q ih =>
          intro hd
          obtain ⟨y, hy, e⟩ := ih (d + 1) (by omega) (by omega)
          obtain ⟨p, hp, rfl⟩ := of_nodes hy
          rcases h2.ent p hp with ⟨_, _, h6⟩ | ⟨h6, _, h7⟩
          · omega
          · exact ⟨p.2, h6, by omega⟩
      have hc : ∃ Y : Nat → Int, ∀ d, d ≤ lv n → Y d ∈ nodes A ∧ lv (Y d) = d :=
        ⟨fun d => if h : d ≤ lv n then (h5 d h).choose else 0, fun d hd => by
          simp only [dif_pos hd]
          exact (h5 d hd).choose_spec⟩
      obtain ⟨Y, hY⟩ := hc
      have hnd : ((List.range (lv n + 1)).map Y).Nodup := by
        rw [List.nodup_iff_pairwise_ne, List.pairwise_map]
        refine List.Pairwise.imp_of_mem ?_ List.nodup_range
        intro a b ha hb hab e
        have h6 := hY a (by rw [List.mem_range] at ha; omega)
        have h7 := hY b (by rw [List.mem_range] at hb; omega)
        rw [e, h7.2] at h6
        exact hab h6.2.symm
      have := nodup_le l.length _ hnd (fun x hx => by
        obtain ⟨d, hd, rfl⟩ := List.mem_map.1 hx
        obtain ⟨p, hp, e⟩ := of_nodes (hY d (by rw [List.mem_range] at hd; omega)).1
        rw [← e]
        exact h2.inn p hp)
      simp at this
      omega
    obtain ⟨cs, c1, c2, c3⟩ := way_back h2 e1 (stopAt (wayTell n) A ⟨fun _ => 0, 0, false⟩).f e3 (lv n) n K [n] (by rw [nodes_app]; exact List.mem_append_right _ (by simp [nodes])) rfl (by omega) (by simp; omega)
    refine ⟨lv n, cs.reverse, ⟨h2.high _ n hmem rfl, fun d' hd' => (hlow d' n hd').2⟩, by rw [List.length_reverse, c1], by omega, back_path n0 cs n [] c2 trivial, ?_⟩
    rw [hw, Option.bind_some, e2, if_pos rfl, c3, Option.bind_some, if_pos (by simp; omega), reverse_is _ (by simp) (by simp; omega) _ (by simp)]
    simp
theorem way_is {t l : Int} {o : List Int} {L : List S51} (hm : bnf_mayB t l o L = 0) (ho : o.length ≤ 1000) {mk : List Bool} (hmk : mk.length = o.length) (hE : empty_Nothing.f t l o L = some (mk, 0)) (n : Int) :
    (¬ ((0 ≤ n ∧ n < (o.length : Int)) ∧ Beg mk o L n n) → reach_Way.f t l o L n = some []) ∧
    ((0 ≤ n ∧ n < (o.length : Int)) → Beg mk o L n n → ∃ d cs, (lay (begG mk o L) ((begG mk o L).getD n.toNat []) d n ∧ ∀ d', lay (begG mk o L) ((begG mk o L).getD n.toNat []) d' n → d ≤ d') ∧ cs.length = d ∧ d ≤ o.length ∧ Path (begG mk o L) n (cs ++ [n]) ∧ reach_Way.f t l o L n = some (n :: (cs ++ [n]))) := by
  have hok := begG_ok hm mk
  have hw : reach_Way.f t l o L n = if thereB t l o L [n] = true then wayG (begG mk o L) (o.length + 2) n else some [] := by
    unfold reach_Way.f
    rw [hE]
    simp only [Option.bind_some]
    rw [if_pos hmk]
  have e : thereB t l o L [n] = true ↔ 0 ≤ n ∧ n < (o.length : Int) := by
    unfold thereB outB
    rw [decide_eq_true hm, Bool.true_and]
    simp only [List.any_cons, List.any_nil, Bool.or_false, Bool.not_eq_true', Bool.or_eq_false_iff, decide_eq_false_iff_not]
    omega
  by_cases c : thereB t l o L [n] = true
  · have hn := e.1 c
    obtain ⟨w1, w2⟩ := wayG_is (by rw [hok.2]; exact hok.1) (by rw [hok.2]; exact ho) n (by rw [hok.2]; exact hn) (o.length + 2) (by rw [hok.2]; omega)
    rw [hw, if_pos c]
    refine ⟨fun h => w1 (fun hd => h ⟨hn, hd⟩), fun _ hb => ?_⟩
    obtain ⟨d, cs, h1, h2, h3, h4, h5⟩ := w2 hb
    exact ⟨d, cs, h1, h2, by rw [← hok.2]; exact h3, h4, h5⟩
  · rw [hw, if_neg c]
    exact ⟨fun _ => rfl, fun hn => absurd (e.2 hn) c⟩
section
variable {mk : List Bool} {o : List Int} {L : List S51} {a b c : Int}
theorem Beg.one (h : b ∈ (begG mk o L).getD a.toNat []) : Beg mk o L a b := ⟨0, h⟩
theorem Beg.trans (h : Beg mk o L a b) (k : Beg mk o L b c) : Beg mk o L a c := by
  obtain ⟨d, hd⟩ := k
  induction d generalizing c with
  | zero => obtain ⟨e, he⟩ := h; exact ⟨e + 1, b, he, hd⟩
  | succ d ih =>
    obtain ⟨x, hx, hc⟩ := hd
    obtain ⟨e, he⟩ := ih hx
    exact ⟨e + 1, x, he, hc⟩
theorem path_beg : ∀ (r : List Int) (a : Int), Path (begG mk o L) a r → ∀ y ∈ r, Beg mk o L a y
  | [], _, _, y, hy => by cases hy
  | x :: r, a, h, y, hy => by
    rcases List.mem_cons.1 hy with rfl | hy
    · exact Beg.one h.2.1
    · exact (Beg.one h.2.1).trans (path_beg r x h.2.2 y hy)
theorem path_cut : ∀ (s : List Int) (a y : Int) (u : List Int), Path (begG mk o L) a (s ++ y :: u) → Path (begG mk o L) y u
  | [], a, y, u, h => h.2.2
  | x :: s, a, y, u, h => path_cut s x y u h.2.2
theorem path_in : ∀ (r : List Int) (a : Int), InN (begG mk o L).length (begG mk o L) → Path (begG mk o L) a r → ∀ y ∈ r, 0 ≤ y ∧ y < ((begG mk o L).length : Int)
  | [], _, _, _, y, hy => by cases hy
  | x :: r, a, hi, h, y, hy => by
    rcases List.mem_cons.1 hy with rfl | hy
    · exact hi _ _ h.2.1
    · exact path_in r x hi h.2.2 y hy
theorem path_all {n : Int} {cs : List Int} (h : Path (begG mk o L) n (cs ++ [n])) : ∀ y ∈ n :: (cs ++ [n]), Beg mk o L y y := by
  have hn : Beg mk o L n n := path_beg _ n h n (List.mem_append_right _ List.mem_cons_self)
  intro y hy
  rcases List.mem_cons.1 hy with rfl | hy
  · exact hn
  · rcases List.mem_append.1 hy with hy | hy
    · have h1 := path_beg _ n h y (List.mem_append_left _ hy)
      obtain ⟨s, u, rfl⟩ := List.append_of_mem hy
      have h2 : Path (begG mk o L) y (u ++ [n]) := path_cut s n y (u ++ [n]) (by simpa using h)
      exact (path_beg _ y h2 n (List.mem_append_right _ List.mem_cons_self)).trans h1
    · obtain rfl := List.mem_singleton.1 hy
      exact hn
end
theorem over_l0 {t l : Int} {o : List Int} {L : List S51} (r : List Int) (hr : r.length ≤ 1000000) (hb : ∀ y ∈ r, reach_Begins.f t l o L y y = some true) : ∀ (d i k : Nat), i + d = r.length → d < k → gramaryelaw11_ReachOver.l0 k r (i : Int) t l o L = some true
  | 0, i, k, h1, h2 => by
    obtain ⟨k, rfl⟩ : ∃ m, k = m + 1 := ⟨k - 1, by omega⟩
    rw [gramaryelaw11_ReachOver.l0, if_neg (by omega)]
  | d + 1, i, k, h1, h2 => by
    obtain ⟨k, rfl⟩ : ∃ m, k = m + 1 := ⟨k - 1, by omega⟩
    have hi : i < r.length := by omega
    have hrd : rd r (i : Int) = r[i] := by unfold rd; rw [Int.toNat_natCast, List.getD_eq_getElem?_getD, List.getElem?_eq_getElem hi]; rfl
    rw [gramaryelaw11_ReachOver.l0, if_pos (by omega), if_pos (by omega), hrd, hb _ (List.getElem_mem hi), Option.bind_some, if_pos rfl, w1 i (by omega)]
    exact over_l0 r hr hb d (i + 1) k (by omega) (by omega)
theorem ReachOver : gramaryelaw11_ReachOver.PureG := by
  intro t l o L x y z _ _ _ _ _ _ _
  have hs := few_small 10 20 o L
  have hfew : Ev (fun k => gramaryelaw11_few.f k t l o L) (t, l, o.take 10, (L.take 20).map cut8) := ⟨20000, fun k hk => by
    show gramaryelaw11_few.f k t l o L = _
    unfold gramaryelaw11_few.f
    rw [show gramaryeref09_Few.f k t l o L 10 20 = some (t, l, o.take 10, (L.take 20).map cut8) from few_is 10 20 (by omega) (by omega) t l o L k (by omega)]; rfl⟩
  generalize o.take 10 = o' at hs hfew
  generalize (L.take 20).map cut8 = L' at hs hfew
  have hs' : Small 40 60 o' L' := ⟨by have := hs.o; omega, by have := hs.l; omega, hs.r⟩
  have ho := hs.o
  refine Ev.rounds ?_
  unfold gramaryelaw11_ReachOver.f
  refine Ev.bind (f := fun k q => if q = true then _ else _) works_is ?_
  simp only [if_true]
  refine Ev.bind (f := fun k _ => _) hfew ?_
  have last : Ev (fun k => gramaryelaw11_ReachOver.j0 k x false t l o' L') true := by
    refine Ev.step (f := fun k => (reach_Way.f t l o' L' x).bind fun t208 => gramaryelaw11_ReachOver.l0 k t208 0 t l o' L') (fun k => by rw [gramaryelaw11_ReachOver.j0, if_neg (by decide)]) ?_
    by_cases hm : bnf_mayB t l o' L' = 0
    · obtain ⟨mk, hE, hmk, _, _⟩ := marks_ok false hm hs'
      rw [← is_nothing] at hE
      obtain ⟨w1, w2⟩ := way_is hm (by omega) hmk hE x
      by_cases hb : (0 ≤ x ∧ x < (o'.length : Int)) ∧ Beg mk o' L' x x
      · obtain ⟨d, cs, h1, h2, h3, h4, h5⟩ := w2 hb.1 hb.2
        have hok := begG_ok hm mk
        have hlen : (x :: (cs ++ [x])).length ≤ 1000000 := by simp; omega
        refine ⟨(x :: (cs ++ [x])).length + 1, fun k hk => ?_⟩
        simp only [h5, Option.bind_some]
        refine over_l0 _ hlen (fun y hy => ?_) (x :: (cs ++ [x])).length 0 k (by omega) (by omega)
        obtain ⟨b, b1, b2⟩ := begins_is hm hmk hE y y
        have hyy : 0 ≤ y ∧ y < (o'.length : Int) := by
          rcases List.mem_cons.1 hy with rfl | hy
          · exact hb.1
          · have := path_in _ x (by rw [hok.2]; exact hok.1) h4 y hy
            rwa [hok.2] at this
        have : b = true := b2.2 ⟨hyy, hyy, path_all h4 y hy⟩
        rw [b1, this]
      · refine ⟨2, fun k hk => ?_⟩
        simp only [w1 hb, Option.bind_some]
        exact over_l0 [] (by simp) (by simp) 0 0 k (by simp) (by omega)
    · have e : reach_Way.f t l o' L' x = some [] := by
        unfold reach_Way.f thereB
        rw [decide_eq_false hm, Bool.false_and, if_neg (by decide)]
      refine ⟨2, fun k hk => ?_⟩
      simp only [e, Option.bind_some]
      exact over_l0 [] (by simp) (by simp) 0 0 k (by simp) (by omega)
  by_cases hm : bnf_mayB t l o' L' = 0
  · obtain ⟨mk, hE, hmk, _, _⟩ := marks_ok false hm hs'
    rw [← is_nothing] at hE
    obtain ⟨b1, e1, f1⟩ := begins_is hm hmk hE x y
    obtain ⟨b2, e2, f2⟩ := begins_is hm hmk hE y z
    obtain ⟨b3, e3, f3⟩ := begins_is hm hmk hE x z
    simp only [e1, e2, e3, Option.bind_some]
    cases b1 with
    | false => simp only [Bool.false_eq_true, if_false]; exact last
    | true =>
      simp only [if_true]
      cases b2 with
      | false => simp only [Bool.false_eq_true, if_false]; exact last
      | true =>
        simp only [if_true]
        have h1 := f1.1 rfl
        have h2 := f2.1 rfl
        have : b3 = true := f3.2 ⟨h1.1, h2.2.1, h1.2.2.trans h2.2.2⟩
        subst this
        exact last
  · have hB : ∀ n m, reach_Begins.f t l o' L' n m = some false := fun n m => by
      unfold reach_Begins.f thereB
      rw [decide_eq_false hm, Bool.false_and, if_neg (by decide)]
    simp only [hB, Option.bind_some, Bool.false_eq_true, if_false]
    exact last
end Go.Proofs.Ytmpdilifoblnaaa.Pure
end
section
namespace Go.Proofs.Ytmpdilifoblnaaa.reachOver
open Go.ChangeShapes Go.WideShapes Go.ChangeAt Go.RowKit Go.Proofs.Ytmpdilifoblnaaa.MReachOver Go.Proofs.YtmpdilifoblnaaaW.PrintWords Go.Proofs.Ytmpdilifoblnaaa.Reads
open Go.ChangeMaps (open_string shut_string)
set_option linter.unusedVariables false
set_option linter.unusedSimpArgs false
theorem own : ownKnob Try.prog.godebug = none := by kernel_rfl
theorem laidOut : laidOutB Try.prog = true := by kernel_rfl
set_option maxRecDepth 100000 in
theorem contract (H : Type) (enc : TypeId × Value → H) (W : World) (base : Nat) (args : Array Value) (ds gs : List (DataW H)) (before : List MemPlace)
    (hval : ∀ (j : Nat) t v, Try.f8.params[j]? = some t → args[j]? = some v → Value.okWide Try.prog W .any base t v)
    (hW : DataW.Whole enc Try.prog Try.f8.params.toList Rows.reachOverSpec.vars false W args.toList ds gs before)
    (hsz : (DataW.weightsEach Try.prog (Try.f8.params.toList ++ Rows.reachOverSpec.plain.varTypes Try.prog) (ds ++ gs)).all (· ≤ reachBytes) = true) :
    Calls Try.prog 8 args W fun e W' => ∃ v, e = .returned v ∧ Rows.reachOverSpec.post enc Try.prog Try.f8 false true false false W args v W' := by
  have hW' := hW
  obtain ⟨p, q, hA0, hV, rfl, hfz, hnd⟩ := hW
  have hA : DataW.TrodAll enc Try.prog W 0 (fun _ => true) true Try.f8.params.toList args.toList ds p := hA0
  rw [Try.params8] at hA hval hsz
  obtain ⟨v0, vs0, d0, ds0, p0, q0, hargs, rfl, rfl, h0, r0⟩ := trodAll_cons hA
  obtain ⟨v1, vs1, d1, ds1, p1, q1, rfl, rfl, rfl, h1, r1⟩ := trodAll_cons r0
  obtain ⟨v2, vs2, d2, ds2, p2, q2, rfl, rfl, rfl, h2, r2⟩ := trodAll_cons r1
  obtain ⟨v3, vs3, d3, ds3, p3, q3, rfl, rfl, rfl, h3, r3⟩ := trodAll_cons r2
  obtain ⟨rfl, rfl, rfl⟩ := trodAll_nil r3
  obtain rfl : args = #[v0, v1, v2, v3] := by cases args; simp_all
  obtain ⟨rfl, rfl⟩ := trodVars_none hV
  have k0 := h0
  have lt0 : ∀ x ∈ p0, x.block < W.heap.size := by obtain ⟨m, hm⟩ := k0; exact DataW.trod_lt m _ _ _ hm
  have z0 := weights_at hsz (j := 0) (t := 25) rfl rfl
  obtain ⟨x0, hK0, hG0⟩ := open_at (fits_struct Try.underlying25 (by kernel_rfl) (fitsF_cons 0 (fits_int Try.prog .i64 Try.underlying3) rfl (by kernel_rfl) (fitsF_cons 1 (fits_int Try.prog .i64 Try.underlying3) rfl (by kernel_rfl) (fitsF_cons 2 (fits_slice 3 8 Try.underlying22 (by kernel_rfl) (by kernel_rfl) (fits_int Try.prog .i64 Try.underlying3)) rfl (by kernel_rfl) (fitsF_one 3 (fits_slice 51 32 Try.underlying23 (by kernel_rfl) (by kernel_rfl) fits51) rfl (by kernel_rfl)))))) h0 z0
  have hO0 : ∃ A0_0 c0_0 A0_1 c0_1, v0.cells.toList = [.int .i64 x0.1, .int .i64 x0.2.1, .slice A0_0 x0.2.2.1.length c0_0, .slice A0_1 x0.2.2.2.length c0_1] ∧ x0.2.2.1.length ≤ c0_0 ∧ Kd.C (Kd.int .i64) W A0_0 x0.2.2.1.length x0.2.2.1 ∧ x0.2.2.2.length ≤ c0_1 ∧ Kd.C k51 W A0_1 x0.2.2.2.length x0.2.2.2 := by
    obtain ⟨_, _, hq_, rfl, ⟨_, _, rfl, rfl, ⟨_, _, rfl, ⟨A0_0, c0_0, rfl, l0_0, g0_0⟩, ⟨A0_1, c0_1, rfl, l0_1, g0_1⟩⟩⟩⟩ := hK0
    exact ⟨A0_0, c0_0, A0_1, c0_1, hq_, l0_0, g0_0, l0_1, g0_1⟩
  obtain ⟨A0_0, c0_0, A0_1, c0_1, hcs0, l0_0, g0_0, l0_1, g0_1⟩ := hO0
  obtain ⟨cs0, rfl, hsize0⟩ := okWide_struct Try.underlying25 (hval 0 25 v0 rfl rfl)
  obtain rfl : cs0 = #[.int .i64 x0.1, .int .i64 x0.2.1, .slice A0_0 x0.2.2.1.length c0_0, .slice A0_1 x0.2.2.2.length c0_1] := Array.toList_inj.1 hcs0
  obtain ⟨hG0_0, hG0_1, hG0_2, hG0_3⟩ := hG0
  have k1 := h1
  have lt1 : ∀ x ∈ p1, x.block < W.heap.size := by obtain ⟨m, hm⟩ := k1; exact DataW.trod_lt m _ _ _ hm
  have z1 := weights_at hsz (j := 1) (t := 3) rfl rfl
  obtain ⟨a1, rfl, rfl, rfl, hG1⟩ := open_int Try.underlying3 (hval 1 3 v1 rfl rfl) h1
  have k2 := h2
  have lt2 : ∀ x ∈ p2, x.block < W.heap.size := by obtain ⟨m, hm⟩ := k2; exact DataW.trod_lt m _ _ _ hm
  have z2 := weights_at hsz (j := 2) (t := 3) rfl rfl
  obtain ⟨a2, rfl, rfl, rfl, hG2⟩ := open_int Try.underlying3 (hval 2 3 v2 rfl rfl) h2
  have k3 := h3
  have lt3 : ∀ x ∈ p3, x.block < W.heap.size := by obtain ⟨m, hm⟩ := k3; exact DataW.trod_lt m _ _ _ hm
  have z3 := weights_at hsz (j := 3) (t := 3) rfl rfl
  obtain ⟨a3, rfl, rfl, rfl, hG3⟩ := open_int Try.underlying3 (hval 3 3 v3 rfl rfl) h3
  clear hA0 hval hsz
  obtain ⟨k, h⟩ := Pure.ReachOver (x0.1) (x0.2.1) (x0.2.2.1) (x0.2.2.2) a1 a2 a3 hG0_0 hG0_1 hG0_2 hG0_3 hG1 hG2 hG3
  refine (gramaryelaw11_ReachOver.calls k (x0.1) (x0.2.1) A0_0 c0_0 (x0.2.2.1) A0_1 c0_1 (x0.2.2.2) a1 a2 a3 true W g0_0 l0_0 g0_1 l0_1 h).mono fun e W' ⟨he, bel0⟩ => ?_
  have bel : Below W.heap.size W W' := bel0
  subst he
  exact ⟨_, rfl, _, _, _, [], _, [], hW', trodAll_mk1 (shut_bool Try.underlying4 _), (trodAll_cons_mk (Below.trod laidOut (by kernel_rfl) (of_decide_eq_true (by kernel_rfl)) k0 bel lt0) (trodAll_cons_mk (Below.trod laidOut (by kernel_rfl) (of_decide_eq_true (by kernel_rfl)) k1 bel lt1) (trodAll_cons_mk (Below.trod laidOut (by kernel_rfl) (of_decide_eq_true (by kernel_rfl)) k2 bel lt2) (trodAll_cons_mk (Below.trod laidOut (by kernel_rfl) (of_decide_eq_true (by kernel_rfl)) k3 bel lt3) trodAll_mk0)))), rfl, bel.frame _, fun h => by cases h⟩
set_option maxRecDepth 100000 in
theorem lifted (os : Os) (started : os.Started) (H : Type) (enc : TypeId × Value → H) :
    ReturnsInHanded {} Try.checked os 8 .any (Rows.reachOverSpec.pre6 enc Try.prog Try.f8 Rows.reachOverRow.domain false) (Rows.reachOverSpec.post enc Try.prog Try.f8 false true false false) := by
  refine returnsInHanded_of_change_sized (C := Try.checked) own started (by kernel_rfl) Try.func8
    (ChangeSpec.witness6 (enc := enc) (C := Try.checked) false ⟨#[], #[.agg #[.int .i64 0, .int .i64 0, .slice none 0 0, .slice none 0 0], .int .i64 0, .int .i64 0, .int .i64 0], []⟩ 8 (by kernel_rfl) (by kernel_rfl) (by kernel_rfl) (by kernel_rfl)) ?_
  intro W base args ds gs before hval hW hcnd hsz _
  exact contract H enc W base args ds gs before hval hW hsz
theorem over : Rows.reachOverRow.holds Try.pinned (OpenSpec.ofChange Rows.reachOverSpec) :=
  OpenClaim.holds_of_wide 8 Try.f8 rfl rfl rfl rfl rfl rfl rfl ⟨rfl, rfl, rfl, rfl, rfl⟩ rfl rfl rfl rfl rfl (by kernel_rfl) Try.func8 (by kernel_rfl)
    (of_decide_eq_true (by kernel_rfl)) (by unfold Func.isWrapper; first | (rw [if_pos (by decide +kernel)]; kernel_rfl) | (rw [if_neg (by decide +kernel)]; exact ⟨rfl, rfl⟩))
    (fun os started H enc _ => lifted os started H enc)
theorem proved : Rows.ReachOverSaid := over
end Go.Proofs.Ytmpdilifoblnaaa.reachOver
namespace Go.Proofs.Ytmpdilifoblnaaa
theorem reachOver_holds : Rows.ReachOverSaid := reachOver.proved
end Go.Proofs.Ytmpdilifoblnaaa
end
