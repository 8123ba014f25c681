/-  -/
import Derived.Test.YtmpdilifoblnaaaZReachWaysBase
namespace Go.Proofs.Ytmpdilifoblnaaa.Fix
open Go.RowKit Go.Proofs.Ytmpdilifoblnaaa.Base Go.Proofs.YtmpdilifoblnaaaW.PrintWords
abbrev Pr := Nat × ((Nat → Nat) → Nat)
def upd (u : Nat → Nat) (i x : Nat) : Nat → Nat := fun j => if j = i then x else u j
def Mono1 (f : (Nat → Nat) → Nat) : Prop := ∀ u v : Nat → Nat, (∀ i, u i ≤ v i) → f u ≤ f v
def Stable (ps : List Pr) (u : Nat → Nat) : Prop := ∀ p ∈ ps, u p.1 ≤ p.2 u
def Above (ps : List Pr) (u0 u : Nat → Nat) : Prop := (∀ i, u i ≤ u0 i) ∧ ∀ m : Nat → Nat, (∀ i, m i ≤ u0 i) → Stable ps m → ∀ i, m i ≤ u i
theorem Above.init (ps : List Pr) (u0 : Nat → Nat) : Above ps u0 u0 := ⟨fun _ => Nat.le_refl _, fun _ h _ => h⟩
theorem Above.step {ps : List Pr} {u0 u : Nat → Nat} (h : Above ps u0 u) (hm : ∀ p ∈ ps, Mono1 p.2) {p : Pr} (hp : p ∈ ps) (hl : p.2 u ≤ u p.1) : Above ps u0 (upd u p.1 (p.2 u)) := by
  refine ⟨fun i => ?_, fun m h0 hs i => ?_⟩
  · unfold upd
    split
    · rename_i e; subst e; exact Nat.le_trans hl (h.1 _)
    · exact h.1 i
  · unfold upd
    split
    · rename_i e; subst e; exact Nat.le_trans (hs p hp) (hm p hp m u (h.2 m h0 hs))
    · exact h.2 m h0 hs i
theorem unique {ps : List Pr} {u0 u v : Nat → Nat} (h : Above ps u0 u) (hs : Stable ps u) (k : Above ps u0 v) (ks : Stable ps v) (i : Nat) : u i = v i :=
  Nat.le_antisymm (k.2 u h.1 hs i) (h.2 v k.1 ks i)
def tot (u : Nat → Nat) : Nat → Nat
  | 0 => 0
  | n + 1 => tot u n + u n
theorem tot_upd_lt {u : Nat → Nat} {i x n : Nat} (hi : i < n) (hx : x < u i) : tot (upd u i x) n < tot u n := by
  have same : ∀ m, m ≤ i → tot (upd u i x) m = tot u m := by
    intro m
    induction m with
    | zero => intro _; rfl
    | succ m ih =>
      intro h
      unfold tot
      rw [ih (by omega)]
      unfold upd
      rw [if_neg (by omega)]
  induction n with
  | zero => omega
  | succ n ih =>
    unfold tot
    by_cases e : i = n
    · subst e
      rw [same i (Nat.le_refl _)]
      unfold upd
      rw [if_pos rfl]
      omega
    · have := ih (by omega)
      have h2 : upd u i x n = u n := by unfold upd; rw [if_neg (by omega)]
      omega
theorem tot_le {u : Nat → Nat} {b : Nat} (h : ∀ i, u i ≤ b) (n : Nat) : tot u n ≤ n * b := by
  induction n with
  | zero => simp [tot]
  | succ n ih => unfold tot; have := h n; rw [Nat.succ_mul]; omega
theorem upd_above {u : Nat → Nat} {i x : Nat} (h : x ≤ u i) : ∀ j, upd u i x j ≤ u j := fun j => by
  unfold upd
  split
  · rename_i e; subst e; exact h
  · exact Nat.le_refl _
theorem work_ends {σ : Type} (G : Nat → σ → List Int → Option σ) (U : σ → Nat → Nat) (V : σ → Prop) (ps : List Pr) (who : Nat → List Int) (n S lim : Nat) (u0 : Nat → Nat)
    (hm : ∀ p ∈ ps, Mono1 p.2) (hl : ∀ p ∈ ps, p.1 < n)
    (hwho : ∀ x, (who x).length ≤ S ∧ ∀ j ∈ who x, 0 ≤ j ∧ j < (ps.length : Int))
    (hdep : ∀ (j : Nat) (hj : j < ps.length) (u : Nat → Nat) (x y : Nat), (j : Int) ∉ who x → (ps[j]).2 (upd u x y) = (ps[j]).2 u)
    (g0 : ∀ k s, G (k + 1) s [] = some s)
    (g1 : ∀ k s (i : Nat) (hi : i < ps.length) rest, V s → ¬ ((ps[i]).2 (U s) < U s (ps[i]).1) → G (k + 1) s ((i : Int) :: rest) = G k s rest)
    (g2 : ∀ k s (i : Nat) (hi : i < ps.length) rest, V s → (ps[i]).2 (U s) < U s (ps[i]).1 → rest.length + (who (ps[i]).1).length < lim →
      ∃ s', V s' ∧ U s' = upd (U s) (ps[i]).1 ((ps[i]).2 (U s)) ∧ G (k + 1) s ((i : Int) :: rest) = G k s' (rest ++ who (ps[i]).1)) :
    ∀ (k : Nat) (s : σ) (l : List Int), V s → Above ps u0 (U s) → (∀ j ∈ l, 0 ≤ j ∧ j < (ps.length : Int)) →
      (∀ (j : Nat) (hj : j < ps.length), (ps[j]).2 (U s) < U s (ps[j]).1 → (j : Int) ∈ l) → l.length + tot (U s) n * S < k → k + S < lim →
      ∃ r, G k s l = some r ∧ V r ∧ Above ps u0 (U r) ∧ Stable ps (U r) := by
  intro k
  induction k with
  | zero => intro s l _ _ _ _ h; omega
  | succ k ih =>
    intro s l hv ha hr hi hk hlim
    cases l with
    | nil =>
      refine ⟨s, g0 k s, hv, ha, fun p hp => ?_⟩
      obtain ⟨j, hj, rfl⟩ := List.getElem_of_mem hp
      rcases Nat.lt_or_ge ((ps[j]).2 (U s)) (U s (ps[j]).1) with h | h
      · exact absurd (hi j hj h) (by simp)
      · exact h
    | cons i rest =>
      obtain ⟨i0, i1⟩ := hr i List.mem_cons_self
      obtain ⟨i, rfl⟩ := Int.eq_ofNat_of_zero_le i0
      have hil : i < ps.length := by omega
      simp only [List.length_cons] at hk
      by_cases himp : (ps[i]).2 (U s) < U s (ps[i]).1
      · have hS := (hwho (ps[i]).1).1
        obtain ⟨s', hv', hu', hg'⟩ := g2 k s i hil rest hv himp (by omega)
        rw [hg']
        have hlt := tot_upd_lt (u := U s) (hl _ (List.getElem_mem hil)) himp
        rw [← hu'] at hlt
        have hmul : tot (U s') n * S + S ≤ tot (U s) n * S := by
          have := Nat.mul_le_mul_right S hlt
          rw [Nat.succ_mul] at this
          exact this
        refine ih s' _ hv' ?_ (fun j hj => ?_) (fun j hj himp' => ?_) ?_ (by omega)
        · rw [hu']; exact ha.step hm (List.getElem_mem hil) (Nat.le_of_lt himp)
        · rcases List.mem_append.1 hj with hj | hj
          · exact hr j (List.mem_cons_of_mem _ hj)
          · exact (hwho _).2 j hj
        · by_cases hw : (j : Int) ∈ who (ps[i]).1
          · exact List.mem_append_right _ hw
          · refine List.mem_append_left _ ?_
            rw [hu', hdep j hj _ _ _ hw] at himp'
            have hle := upd_above (u := U s) (Nat.le_of_lt himp) (ps[j]).1
            have := hi j hj (by omega)
            rcases List.mem_cons.1 this with e | e
            · exfalso
              have e2 : j = i := by omega
              subst e2
              unfold upd at himp'
              rw [if_pos rfl] at himp'
              omega
            · exact e
        · rw [List.length_append]
          omega
      · rw [g1 k s i hil rest hv himp]
        refine ih s rest hv ha (fun j hj => hr j (List.mem_cons_of_mem _ hj)) (fun j hj h => ?_) (by omega) (by omega)
        rcases List.mem_cons.1 (hi j hj h) with e | e
        · exfalso
          have e2 : j = i := by omega
          subst e2
          exact himp h
        · exact e
theorem sweeps_end {σ : Type} (l1 : Nat → σ → Bool → Option σ) (l2 : Nat → σ → Bool → Nat → Option σ) (U : σ → Nat → Nat) (V : σ → Prop) (ps : List Pr) (n : Nat) (u0 : Nat → Nat)
    (hm : ∀ p ∈ ps, Mono1 p.2) (hl : ∀ p ∈ ps, p.1 < n)
    (p1 : ∀ s r, Ev (fun k => l2 k s false 0) r → Ev (fun k => l1 k s true) r) (p1' : ∀ s, Ev (fun k => l1 k s false) s)
    (p2 : ∀ s more (i : Nat) (hi : i < ps.length) r, V s → ¬ ((ps[i]).2 (U s) < U s (ps[i]).1) → Ev (fun k => l2 k s more (i + 1)) r → Ev (fun k => l2 k s more i) r)
    (p3 : ∀ s more (i : Nat) (hi : i < ps.length), V s → (ps[i]).2 (U s) < U s (ps[i]).1 → ∃ s', V s' ∧ U s' = upd (U s) (ps[i]).1 ((ps[i]).2 (U s)) ∧ ∀ r, Ev (fun k => l2 k s' true (i + 1)) r → Ev (fun k => l2 k s more i) r)
    (p4 : ∀ s more r, Ev (fun k => l1 k s more) r → Ev (fun k => l2 k s more ps.length) r) :
    ∀ (T : Nat) (s : σ), V s → Above ps u0 (U s) → tot (U s) n ≤ T → ∃ r, Ev (fun k => l1 k s true) r ∧ V r ∧ Above ps u0 (U r) ∧ Stable ps (U r) := by
  intro T
  induction T using Nat.strongRecOn with
  | ind T ihT =>
    have sweep : ∀ (d : Nat) (i : Nat) (s : σ) (more : Bool), i + d = ps.length → V s → Above ps u0 (U s) → tot (U s) n ≤ T → (more = true → tot (U s) n < T) →
        (more = false → ∀ (j : Nat) (hj : j < ps.length), j < i → ¬ ((ps[j]).2 (U s) < U s (ps[j]).1)) → ∃ r, Ev (fun k => l2 k s more i) r ∧ V r ∧ Above ps u0 (U r) ∧ Stable ps (U r) := by
      intro d
      induction d with
      | zero =>
        intro i s more hd hv ha ht hT hF
        obtain rfl : i = ps.length := by omega
        cases more with
        | false =>
          refine ⟨s, p4 s false s (p1' s), hv, ha, fun p hp => ?_⟩
          obtain ⟨j, hj, rfl⟩ := List.getElem_of_mem hp
          exact Nat.le_of_not_lt (hF rfl j hj hj)
        | true =>
          obtain ⟨r, h1, h2⟩ := ihT (tot (U s) n) (hT rfl) s hv ha (Nat.le_refl _)
          exact ⟨r, p4 s true r h1, h2⟩
      | succ d ih =>
        intro i s more hd hv ha ht hT hF
        have hil : i < ps.length := by omega
        by_cases himp : (ps[i]).2 (U s) < U s (ps[i]).1
        · obtain ⟨s', hv', hu', hg'⟩ := p3 s more i hil hv himp
          have hlt := tot_upd_lt (u := U s) (hl _ (List.getElem_mem hil)) himp
          rw [← hu'] at hlt
          obtain ⟨r, h1, h2⟩ := ih (i + 1) s' true (by omega) hv' (by rw [hu']; exact ha.step hm (List.getElem_mem hil) (Nat.le_of_lt himp)) (by omega) (fun _ => by omega) (fun h => by cases h)
          exact ⟨r, hg' r h1, h2⟩
        · obtain ⟨r, h1, h2⟩ := ih (i + 1) s more (by omega) hv ha ht hT (fun hf j hj hji => by
            rcases Nat.lt_or_ge j i with h | h
            · exact hF hf j hj h
            · obtain rfl : j = i := by omega
              exact himp)
          exact ⟨r, p2 s more i hil r hv himp h1, h2⟩
    intro s hv ha ht
    obtain ⟨r, h1, h2⟩ := sweep ps.length 0 s false (by omega) hv ha ht (fun h => by cases h) (fun _ j _ hj => by omega)
    exact ⟨r, p1 s r h1, h2⟩
end Go.Proofs.Ytmpdilifoblnaaa.Fix
