/- What the program's functions 9999 compute (numbers of this seat): contracts, walked by the engine. -/
import Derived.Test.YthcogpecnmhhlaaEngU
import Derived.Test.YthcogpecnmhhlaaCodY
import Derived.Test.YthcogpecnmhhlaaProg
namespace Go.Eng
open Go Go.Proofs
set_option maxRecDepth 100000
set_option linter.all false
set_option maxHeartbeats 1000000
theorem pre_split {c : Cod} (hr : c.Ranged) (i : Int) : ∀ (f : Nat) (l : List Int), (∀ a ∈ l, 0 ≤ a ∧ c.L.length ≤ a + f ∧ a < c.L.length) → i ∈ c.forest f l → ∃ A B, c.forest f l = A ++ i :: B ∧ ∀ k ∈ c.kidsAt i, k ∈ B
  | 0, l, _, h => by
    have : c.forest 0 l = [] := by simp [Cod.forest, Cod.pre]
    rw [this] at h; cases h
  | f + 1, l, hl, h => by
    obtain ⟨a, ha, hi⟩ := List.mem_flatMap.1 (show i ∈ l.flatMap (c.pre (f + 1)) from h)
    obtain ⟨l1, l2, rfl⟩ := List.append_of_mem ha
    obtain ⟨h0, h1, h2⟩ := hl a ha
    have hk : ∀ b ∈ c.kidsAt a, 0 ≤ b ∧ c.L.length ≤ b + f ∧ b < c.L.length := fun b hb => by
      have := kidsAt_ranged hr h0 hb; omega
    rw [pre_succ] at hi
    rw [forest_append, forest_cons, pre_succ]
    rcases List.mem_cons.1 hi with rfl | hi
    · refine ⟨c.forest (f + 1) l1, c.forest f (c.kidsAt i) ++ c.forest (f + 1) l2, by simp, fun k hk' => ?_⟩
      have := hk k hk'
      refine List.mem_append_left _ (List.mem_flatMap.2 ⟨k, hk', ?_⟩)
      obtain ⟨g, rfl⟩ : ∃ g, f = g + 1 := ⟨f - 1, by omega⟩
      rw [pre_succ]; exact List.mem_cons_self
    · obtain ⟨A, B, e, hB⟩ := pre_split hr i f _ hk hi
      exact ⟨c.forest (f + 1) l1 ++ a :: A, B ++ c.forest (f + 1) l2, by rw [e]; simp, fun k hk' => List.mem_append_left _ (hB k hk')⟩
def Cod.sig (c : Cod) (i : Int) : Int := c.order.getD i.toNat 0
theorem sig_at {c : Cod} (t : c.Tree) {j : Nat} {x : Int} (h : c.walk[j]? = .some x) : c.sig x = j := by
  obtain ⟨hj, rfl⟩ := List.getElem?_eq_some_iff.1 h
  rw [Cod.sig, List.getD_eq_getElem?_getD, order_walk t j hj]; rfl
theorem sig_has {c : Cod} (t : c.Tree) {i : Int} (h0 : 0 ≤ i) (h : i < c.L.length) : ∃ j : Nat, j < c.L.length ∧ c.walk[j]? = .some i ∧ c.sig i = j := by
  obtain ⟨j, hj, e⟩ := walk_has t i.toNat (by omega)
  rw [Int.toNat_of_nonneg h0] at e
  have h1 : c.walk[j]? = .some i := by rw [List.getElem?_eq_getElem hj, e]
  exact ⟨j, by rw [← walk_len t]; exact hj, h1, sig_at t h1⟩
theorem sig_range {c : Cod} (t : c.Tree) {i : Int} (h0 : 0 ≤ i) (h : i < c.L.length) : 0 ≤ c.sig i ∧ c.sig i < c.L.length := by
  obtain ⟨j, hj, _, e⟩ := sig_has t h0 h
  omega
theorem mvI_sig {c : Cod} {i : Int} (h : 0 ≤ i) : mvI c.order i = c.sig i := if_neg (by omega)
theorem sig_kid {c : Cod} (t : c.Tree) {i k : Int} (h0 : 0 ≤ i) (h : i < c.L.length) (hk : k ∈ c.kidsAt i) : c.sig i < c.sig k := by
  obtain ⟨j, hj, hw, _⟩ := sig_has t h0 h
  obtain ⟨A, B, e, hB⟩ := pre_split t.ranged i c.L.length c.bodies (fun a ha => by have := t.body a ha; omega) (List.mem_of_getElem? hw)
  have e : c.walk = A ++ i :: B := e
  have h1 : c.sig i = A.length := sig_at t (by rw [e]; simp)
  obtain ⟨q, hq, e2⟩ := List.getElem_of_mem (hB k hk)
  have h2 : c.sig k = (A.length + (q + 1) : Nat) := sig_at t (by rw [e, List.getElem?_append_right (by omega), show A.length + (q + 1) - A.length = q + 1 by omega, List.getElem?_cons_succ, List.getElem?_eq_getElem hq, e2])
  omega
theorem normed_len (c : Cod) : c.normed.L.length = c.L.length := normLAt_len c _
theorem normed_get {c : Cod} (t : c.Tree) (i : Nat) (h : i < c.L.length) : c.normed.L[(c.sig i).toNat]? = .some (c.L[i].moved c.order) := by
  obtain ⟨j, hj, hw, e⟩ := sig_has t (i := i) (by omega) (by omega)
  obtain ⟨hj', e'⟩ := List.getElem?_eq_some_iff.1 hw
  have := normLAt_get t c.L.length (Nat.le_refl _) j hj' (by rw [e']; omega)
  rw [e'] at this
  rw [e, Int.toNat_natCast]
  refine this.trans ?_
  simp [Cod.movedAt, h]
theorem kids_moved {n : Nod} {o : List Int} (ha : n.A ≠ -1 → mvI o n.A ≠ -1) (hb : n.B ≠ -1 → mvI o n.B ≠ -1) (hc : n.C ≠ -1 → mvI o n.C ≠ -1) : (n.moved o).kids = n.kids.map (mvI o) := by
  have h1 : mvI o (-1) = -1 := if_pos rfl
  have h2 : ([mvI o n.A, mvI o n.B, mvI o n.C].filter fun x => !decide (x = -1)) = ([n.A, n.B, n.C].filter fun x => !decide (x = -1)).map (mvI o) := by
    by_cases a : n.A = -1 <;> by_cases b : n.B = -1 <;> by_cases d : n.C = -1 <;> simp [a, b, d, h1, ha, hb, hc]
  simp only [Nod.kids, Nod.moved, List.map_append, List.map_map, h2]
  rfl
theorem kidsAt_nat (c : Cod) (i : Nat) (h : i < c.L.length) : c.kidsAt i = c.L[i].kids := by simp [Cod.kidsAt, h]
theorem kidsAt_normed {c : Cod} (t : c.Tree) {i : Int} (h0 : 0 ≤ i) (h : i < c.L.length) : c.normed.kidsAt (c.sig i) = (c.kidsAt i).map c.sig := by
  obtain ⟨m, rfl⟩ : ∃ m : Nat, i = m := ⟨i.toNat, by omega⟩
  have hm : m < c.L.length := by omega
  have hr := t.ranged m hm
  have kn : ∀ k ∈ c.L[m].kids, mvI c.order k = c.sig k ∧ 0 ≤ c.sig k := fun k hk => by
    have := hr k hk
    exact ⟨mvI_sig (by omega), (sig_range t (by omega) (by omega)).1⟩
  rw [Cod.kidsAt, normed_get t m hm]
  show (c.L[m].moved c.order).kids = _
  rw [kids_moved (fun e => by have := kn _ (kids_A e); omega) (fun e => by have := kn _ (kids_B e); omega) (fun e => by have := kn _ (kids_C e); omega), kidsAt_nat c m hm]
  exact List.map_congr_left fun k hk => (kn k hk).1
theorem pre_normed {c : Cod} (t : c.Tree) : ∀ f : Nat, (∀ i : Int, 0 ≤ i → i < c.L.length → c.normed.pre f (c.sig i) = (c.pre f i).map c.sig) ∧ (∀ l : List Int, (∀ i ∈ l, 0 ≤ i ∧ i < c.L.length) → c.normed.forest f (l.map c.sig) = (c.forest f l).map c.sig)
  | 0 => by
    refine ⟨fun i _ _ => by simp [Cod.pre], fun l _ => ?_⟩
    have : ∀ (x : Cod) (l : List Int), x.forest 0 l = [] := fun x l => by simp [Cod.forest, Cod.pre]
    rw [this, this]; rfl
  | f + 1 => by
    obtain ⟨ih1, ih2⟩ := pre_normed t f
    have a : ∀ i : Int, 0 ≤ i → i < c.L.length → c.normed.pre (f + 1) (c.sig i) = (c.pre (f + 1) i).map c.sig := fun i h0 h => by
      rw [pre_succ, pre_succ, kidsAt_normed t h0 h, ih2 _ (fun k hk => by have := kidsAt_ranged t.ranged h0 hk; omega), List.map_cons]
    refine ⟨a, fun l hl => ?_⟩
    induction l with
    | nil => rfl
    | cons i r ih =>
      rw [List.map_cons, forest_cons, forest_cons, List.map_append, a i (hl i List.mem_cons_self).1 (hl i List.mem_cons_self).2, ih fun x hx => hl x (List.mem_cons_of_mem _ hx)]
theorem bodies_normed (c : Cod) : c.normed.bodies = c.bodies.map c.sig := by
  simp [Cod.bodies, Cod.normed, Fun.moved, Cod.sig]
theorem walk_normed {c : Cod} (t : c.Tree) : c.normed.walk = (List.range c.L.length).map fun j : Nat => (j : Int) := by
  have : c.normed.walk = c.walk.map c.sig := by
    rw [Cod.walk, normed_len, bodies_normed]
    exact (pre_normed t _).2 c.bodies t.body
  rw [this]
  refine List.ext_getElem? fun j => ?_
  rw [List.getElem?_map, List.getElem?_map]
  by_cases hj : j < c.L.length
  · have hj' : j < c.walk.length := by rw [walk_len t]; exact hj
    rw [List.getElem?_eq_getElem hj', List.getElem?_range hj]
    simp only [Option.map_some]
    rw [sig_at t (List.getElem?_eq_getElem hj')]
  · rw [List.getElem?_eq_none (by rw [walk_len t]; omega), List.getElem?_eq_none (by simp; omega)]; rfl
theorem sig_inv {c : Cod} (t : c.Tree) (j : Nat) (h : j < c.L.length) : ∃ i : Nat, i < c.L.length ∧ c.sig i = j := by
  have hj : j < c.walk.length := by rw [walk_len t]; exact h
  obtain ⟨a, b⟩ := walk_mem t _ (List.getElem_mem hj)
  exact ⟨c.walk[j].toNat, by omega, by rw [Int.toNat_of_nonneg a]; exact sig_at t (List.getElem?_eq_getElem hj)⟩
theorem normed_ranged {c : Cod} (t : c.Tree) : c.normed.Ranged := by
  intro j hj k hk
  rw [← kidsAt_nat _ _ hj] at hk
  rw [normed_len] at hj ⊢
  obtain ⟨i, hi, e⟩ := sig_inv t j hj
  rw [← e, kidsAt_normed t (by omega) (by omega)] at hk
  obtain ⟨q, hq, rfl⟩ := List.mem_map.1 hk
  have := kidsAt_ranged t.ranged (by omega) hq
  exact ⟨by rw [← e]; exact sig_kid t (by omega) (by omega) hq, (sig_range t (by omega) (by omega)).2⟩
theorem count_range (N k : Nat) (h : k < N) : ((List.range N).map fun j : Nat => (j : Int)).count (k : Int) = 1 := by
  have : ∀ N : Nat, ((List.range N).map fun j : Nat => (j : Int)).count (k : Int) = if k < N then 1 else 0 := by
    intro N
    induction N with
    | zero => simp
    | succ N ih =>
      rw [List.range_succ, List.map_append, List.count_append, ih]
      by_cases e : k = N
      · subst e; simp
      · have : ¬ ((N : Int) = k) := by omega
        simp [this]
        split <;> split <;> omega
  rw [this, if_pos h]
theorem normed_tree {c : Cod} (t : c.Tree) : c.normed.Tree := by
  have hr := normed_ranged t
  have hb : ∀ b ∈ c.normed.bodies, 0 ≤ b ∧ b < c.normed.L.length := by
    intro b hb
    rw [bodies_normed] at hb
    obtain ⟨i, hi, rfl⟩ := List.mem_map.1 hb
    rw [normed_len]
    exact sig_range t (t.body i hi).1 (t.body i hi).2
  refine ⟨hr, hb, fun k hk => ?_⟩
  have h1 := forest_count hr (k : Int) c.normed.L.length c.normed.bodies (fun i hi => by have := hb i hi; omega)
  rw [show c.normed.forest c.normed.L.length c.normed.bodies = c.normed.walk from rfl, walk_normed t, ← normed_len, count_range _ _ hk, count_flatMap, List.map_map] at h1
  have h2 := flatMap_range c.normed (k : Int)
  rw [List.count_append, Nat.add_comm, ← h2]
  exact h1.symm
theorem sig_normed {c : Cod} (t : c.Tree) {i : Int} (h0 : 0 ≤ i) (h : i < c.L.length) : c.normed.sig i = i := by
  have := sig_at (normed_tree t) (j := i.toNat) (x := i) (by rw [walk_normed t, List.getElem?_map, List.getElem?_range (by omega)]; simp; omega)
  omega
theorem moved_same {n : Nod} {o : List Int} (h : ∀ k ∈ n.kids, mvI o k = k) : n.moved o = n := by
  have h1 : mvI o (-1) = -1 := if_pos rfl
  have ha : mvI o n.A = n.A := by
    by_cases e : n.A = -1
    · rw [e, h1]
    · exact h _ (kids_A e)
  have hb : mvI o n.B = n.B := by
    by_cases e : n.B = -1
    · rw [e, h1]
    · exact h _ (kids_B e)
  have hc : mvI o n.C = n.C := by
    by_cases e : n.C = -1
    · rw [e, h1]
    · exact h _ (kids_C e)
  have hl : n.L.map (mvI o) = n.L := (List.map_congr_left fun k hk => h k (kids_L hk)).trans (List.map_id _)
  have hk : n.Cases.map (Cas.moved o) = n.Cases := (List.map_congr_left fun x hx => by
    show Cas.mk x.L (mvI o x.Body) = x
    rw [h _ (kids_Cases hx)]).trans (List.map_id _)
  rw [Nod.moved, ha, hb, hc, hl, hk]
theorem normed_idem {c : Cod} (t : c.Tree) : c.normed.normed = c.normed := by
  have t2 := normed_tree t
  have hf : c.normed.Funcs.map (Fun.moved c.normed) = c.normed.Funcs := (List.map_congr_left fun f hf => by
    have hb := t2.body f.Body (List.mem_map_of_mem hf)
    rw [normed_len] at hb
    have : c.normed.order.getD f.Body.toNat 0 = f.Body := sig_normed t hb.1 hb.2
    rw [Fun.moved, this]; rfl).trans (List.map_id _)
  have hl : c.normed.normed.L = c.normed.L := by
    refine List.ext_getElem? fun j => ?_
    by_cases hj : j < c.normed.L.length
    · have hj' : j < c.L.length := by rw [normed_len] at hj; exact hj
      have := normed_get t2 j hj
      rw [sig_normed t (by omega) (by omega), Int.toNat_natCast] at this
      rw [this, List.getElem?_eq_getElem hj]
      congr 1
      refine moved_same fun k hk => ?_
      have hr := t2.ranged j hj k hk
      rw [normed_len] at hr
      rw [mvI_sig (by omega), sig_normed t (by omega) (by omega)]
    · rw [List.getElem?_eq_none (by rw [normed_len]; omega), List.getElem?_eq_none (by omega)]
  show Cod.mk c.normed.Name c.normed.Structs (c.normed.Funcs.map (Fun.moved c.normed)) c.normed.normed.L = c.normed
  rw [hf, hl]
theorem dset_other (c : Cod) (i : Nat) (k : Nat) : ∀ (ks d : List Int), (∀ x ∈ ks, 0 ≤ x) → (k : Int) ∉ ks → (deepSet c i d ks)[k]? = d[k]?
  | [], _, _, _ => rfl
  | a :: r, d, h0, h => by
    have ha := h0 a List.mem_cons_self
    show (deepSet c i (d.set a.toNat (d.getD i 0 + 1)) r)[k]? = _
    rw [dset_other c i k r _ (fun x hx => h0 x (List.mem_cons_of_mem _ hx)) (fun hm => h (List.mem_cons_of_mem _ hm)), List.getElem?_set_ne (fun e => h (by rw [← e, Int.toNat_of_nonneg ha]; exact List.mem_cons_self))]
theorem dset_kid (c : Cod) (i : Nat) (k : Nat) : ∀ (ks d : List Int), (∀ x ∈ ks, (i : Int) < x ∧ x < d.length) → (k : Int) ∈ ks → (deepSet c i d ks)[k]? = .some (d.getD i 0 + 1)
  | [], _, _, h => by cases h
  | a :: r, d, h0, h => by
    have ha := h0 a List.mem_cons_self
    have e1 : (d.set a.toNat (d.getD i 0 + 1)).getD i 0 = d.getD i 0 := by
      rw [List.getD_eq_getElem?_getD, List.getElem?_set_ne (by omega), ← List.getD_eq_getElem?_getD]
    show (deepSet c i (d.set a.toNat (d.getD i 0 + 1)) r)[k]? = _
    by_cases hr : (k : Int) ∈ r
    · rw [dset_kid c i k r _ (fun x hx => by rw [List.length_set]; exact h0 x (List.mem_cons_of_mem _ hx)) hr, e1]
    · have e : (k : Int) = a := by
        rcases List.mem_cons.1 h with e | e
        · exact e
        · exact absurd e hr
      rw [dset_other c i k r _ (fun x hx => by have := h0 x (List.mem_cons_of_mem _ hx); omega) hr, show a.toNat = k by omega, List.getElem?_set_self (by omega)]
theorem deepAt_other (c : Cod) (hr : c.Ranged) (d : List Int) (m k : Nat) (h : (k : Int) ∉ c.kidsAt m) : (c.deepAt d (m + 1))[k]? = (c.deepAt d m)[k]? := by
  show (c.deepStep m (c.deepAt d m))[k]? = _
  unfold Cod.deepStep
  by_cases hm : m < c.L.length
  · rw [List.getElem?_eq_getElem hm]
    rw [kidsAt_nat c m hm] at h
    exact dset_other c m k _ _ (fun x hx => by have := hr m hm x hx; omega) h
  · have : c.L[m]? = none := List.getElem?_eq_none (by omega)
    rw [this]
theorem deepAt_stay (c : Cod) (hr : c.Ranged) (d : List Int) (a k : Nat) : ∀ q : Nat, (∀ m, a ≤ m → m < a + q → (k : Int) ∉ c.kidsAt m) → (c.deepAt d (a + q))[k]? = (c.deepAt d a)[k]?
  | 0, _ => rfl
  | q + 1, h => by
    rw [← Nat.add_assoc, deepAt_other c hr d (a + q) k (h _ (by omega) (by omega))]
    exact deepAt_stay c hr d a k q fun m h1 h2 => h m h1 (by omega)
theorem sum_ge (f : Nat → Nat) : ∀ (N i : Nat), i < N → f i ≤ ((List.range N).map f).sum
  | N + 1, i, h => by
    rw [List.range_succ, List.map_append, List.sum_append]
    by_cases e : i = N
    · subst e; simp
    · have := sum_ge f N i (by omega); omega
theorem sum_two (f : Nat → Nat) : ∀ (N i m : Nat), i < m → m < N → f i + f m ≤ ((List.range N).map f).sum
  | N + 1, i, m, h1, h2 => by
    rw [List.range_succ, List.map_append, List.sum_append]
    by_cases e : m = N
    · subst e
      have := sum_ge f m i h1
      simp; omega
    · have := sum_two f N i m h1 (by omega); omega
theorem kidsAt_lt {c : Cod} {i : Nat} {k : Int} (h : k ∈ c.kidsAt i) : i < c.L.length := by
  rcases Nat.lt_or_ge i c.L.length with h' | h'
  · exact h'
  · rw [Cod.kidsAt, Int.toNat_natCast, List.getElem?_eq_none h'] at h; cases h
theorem one_parent {c : Cod} (t : c.Tree) {i m k : Nat} (h1 : (k : Int) ∈ c.kidsAt i) (h2 : (k : Int) ∈ c.kidsAt m) : i = m := by
  have hk := kidsAt_ranged t.ranged (by omega) h1
  have ho := t.once k (by omega)
  rw [List.count_append, ← flatMap_range] at ho
  have p1 := List.count_pos_iff.2 h1
  have p2 := List.count_pos_iff.2 h2
  have l1 := kidsAt_lt h1
  have l2 := kidsAt_lt h2
  rcases Nat.lt_trichotomy i m with h | h | h
  · have : (c.kidsAt (i : Int)).count (k : Int) + (c.kidsAt (m : Int)).count (k : Int) ≤ _ := sum_two (fun j : Nat => (c.kidsAt (j : Int)).count (k : Int)) c.L.length i m h l2
    omega
  · exact h
  · have : (c.kidsAt (m : Int)).count (k : Int) + (c.kidsAt (i : Int)).count (k : Int) ≤ _ := sum_two (fun j : Nat => (c.kidsAt (j : Int)).count (k : Int)) c.L.length m i h l1
    omega
theorem body_nokid {c : Cod} (t : c.Tree) {b m : Nat} (h1 : (b : Int) ∈ c.bodies) (h2 : (b : Int) ∈ c.kidsAt m) : False := by
  have hb := t.body _ h1
  have ho := t.once b (by omega)
  rw [List.count_append, ← flatMap_range] at ho
  have p1 := List.count_pos_iff.2 h1
  have p2 := List.count_pos_iff.2 h2
  have : (c.kidsAt (m : Int)).count (b : Int) ≤ _ := sum_ge (fun j : Nat => (c.kidsAt (j : Int)).count (b : Int)) c.L.length m (kidsAt_lt h2)
  omega
def Cod.dp (c : Cod) (j : Nat) : Int := (c.deepAt (deep0 c.L.length c.bodies) (j + 1)).getD j 0
theorem deep0_get (b : Nat) : ∀ (l d : List Int), ((b : Int) ∈ l ∨ d[b]? = .some 1) → b < d.length → (∀ x ∈ l, 0 ≤ x) → (l.foldl (fun d b => d.set b.toNat 1) d)[b]? = .some 1
  | [], d, h, _, _ => by rcases h with h | h
                         · cases h
                         · exact h
  | a :: r, d, h, hb, h0 => by
    have ha := h0 a List.mem_cons_self
    refine deep0_get b r (d.set a.toNat 1) ?_ (by rw [List.length_set]; exact hb) (fun x hx => h0 x (List.mem_cons_of_mem _ hx))
    by_cases e : a.toNat = b
    · right; rw [e, List.getElem?_set_self hb]
    · rw [List.getElem?_set_ne e]
      rcases h with h | h
      · left
        rcases List.mem_cons.1 h with h | h
        · omega
        · exact h
      · exact .inr h
theorem dp_body {c : Cod} (t : c.Tree) {b : Nat} (h : (b : Int) ∈ c.bodies) : c.dp b = 1 := by
  have hb := t.body _ h
  have h1 := deepAt_stay c t.ranged (deep0 c.L.length c.bodies) 0 b (b + 1) (fun m _ _ hm => body_nokid t h hm)
  rw [Nat.zero_add] at h1
  rw [Cod.dp, List.getD_eq_getElem?_getD, h1]
  show ((deep0 c.L.length c.bodies)[b]?).getD 0 = 1
  rw [deep0, deep0_get b c.bodies _ (.inl h) (by rw [List.length_replicate]; omega) (fun x hx => (t.body x hx).1)]; rfl
theorem dp_kid {c : Cod} (t : c.Tree) {i k : Nat} (h : (k : Int) ∈ c.kidsAt i) : c.dp k = c.dp i + 1 := by
  have hi := kidsAt_lt h
  have hk := kidsAt_ranged t.ranged (by omega) h
  have h1 := deepAt_stay c t.ranged (deep0 c.L.length c.bodies) (i + 1) k (k - i) (fun m h1 _ hm => by have := one_parent t h hm; omega)
  rw [show i + 1 + (k - i) = k + 1 by omega] at h1
  have h2 : c.dp i = (c.deepAt (deep0 c.L.length c.bodies) i).getD i 0 := by
    rw [Cod.dp, List.getD_eq_getElem?_getD, deepAt_other c t.ranged _ i i (fun hm => by have := kidsAt_ranged t.ranged (by omega) hm; omega), ← List.getD_eq_getElem?_getD]
  rw [h2, Cod.dp, List.getD_eq_getElem?_getD, h1]
  show ((c.deepStep i (c.deepAt (deep0 c.L.length c.bodies) i))[k]?).getD 0 = _
  unfold Cod.deepStep
  rw [List.getElem?_eq_getElem hi]
  rw [kidsAt_nat c i hi] at h
  have := dset_kid c i k c.L[i].kids (c.deepAt (deep0 c.L.length c.bodies) i) (fun x hx => by
    have := t.ranged i hi x hx
    rw [deepAt_len, deep0_len]; exact this) h
  show ((deepSet c i (c.deepAt (deep0 c.L.length c.bodies) i) c.L[i].kids)[k]?).getD 0 = _
  rw [this]; rfl
theorem dp_normed {c : Cod} (t : c.Tree) (k : Nat) : k < c.L.length → c.normed.dp (c.sig k).toNat = c.dp k := by
  induction k using Nat.strongRecOn with
  | ind k ih =>
    intro hk
    have t2 := normed_tree t
    have hs := sig_range t (i := k) (by omega) (by omega)
    have hm : (k : Int) ∈ c.L.flatMap Nod.kids ++ c.bodies := List.count_pos_iff.1 (by rw [t.once k hk]; omega)
    rcases List.mem_append.1 hm with h | h
    · obtain ⟨n, hn, h⟩ := List.mem_flatMap.1 h
      obtain ⟨i, hi, rfl⟩ := List.getElem_of_mem hn
      have hik := t.ranged i hi _ h
      rw [← kidsAt_nat c i hi] at h
      have hsi := sig_range t (i := i) (by omega) (by omega)
      rw [dp_kid t h, ← ih i (by omega) hi]
      refine dp_kid t2 ?_
      rw [Int.toNat_of_nonneg hs.1, Int.toNat_of_nonneg hsi.1, kidsAt_normed t (by omega) (by omega)]
      exact List.mem_map_of_mem h
    · rw [dp_body t h]
      refine dp_body t2 ?_
      rw [Int.toNat_of_nonneg hs.1, bodies_normed]
      exact List.mem_map_of_mem h
theorem child_normed {c : Cod} (t : c.Tree) {i : Nat} {k : Int} {p : Int → Bool} (hi : i < c.L.length) (hk : k ≠ -1 → k ∈ c.L[i].kids) (h : c.child i k p = true) : c.normed.child (c.sig i) (mvI c.order k) p = true := by
  have hr := child_range (by omega) h
  have hk := hk (by omega)
  rw [mvI_sig (by omega)]
  unfold Cod.child at h ⊢
  rw [Bool.and_eq_true] at h ⊢
  refine ⟨decide_eq_true (sig_kid t (by omega) (by omega) (by rw [kidsAt_nat c i hi]; exact hk)), ?_⟩
  obtain ⟨m, rfl⟩ : ∃ m : Nat, k = m := ⟨k.toNat, by omega⟩
  have h2 := h.2
  rw [normed_get t m (by omega)]
  rw [Int.toNat_natCast, List.getElem?_eq_getElem (by omega)] at h2
  exact h2
theorem plain_moved (n : Nod) (o : List Int) : (n.moved o).plain = n.plain := by
  simp only [Nod.plain, Nod.named, Nod.moved, List.length_map]
  rfl
theorem kind_normed {c : Cod} (t : c.Tree) {i : Nat} (hi : i < c.L.length) (h : c.kindRight i c.L[i] = true) : c.normed.kindRight (c.sig i) (c.L[i].moved c.order) = true := by
  have m1 : mvI c.order (-1) = -1 := if_pos rfl
  have hA : ∀ p, c.child i c.L[i].A p = true → c.normed.child (c.sig i) (mvI c.order c.L[i].A) p = true := fun p => child_normed t hi kids_A
  have hB : ∀ p, c.child i c.L[i].B p = true → c.normed.child (c.sig i) (mvI c.order c.L[i].B) p = true := fun p => child_normed t hi kids_B
  have hC : ∀ p, c.child i c.L[i].C p = true → c.normed.child (c.sig i) (mvI c.order c.L[i].C) p = true := fun p => child_normed t hi kids_C
  have hL : ∀ p, c.all i c.L[i].L p = true → c.normed.all (c.sig i) (c.L[i].L.map (mvI c.order)) p = true := fun p h => by
    simp only [Cod.all, Bool.not_eq_true', List.any_eq_false, List.mem_map] at h ⊢
    rintro _ ⟨k, hk, rfl⟩
    have : c.child i k p = true := by simpa using h k hk
    rw [child_normed t hi (fun _ => kids_L hk) this]; simp
  have hK : c.L[i].Cases.any (c.caseBad i) = false → (c.L[i].Cases.map (Cas.moved c.order)).any (c.normed.caseBad (c.sig i)) = false := fun h => by
    simp only [List.any_eq_false, List.mem_map] at h ⊢
    rintro _ ⟨x, hx, rfl⟩
    have := h x hx
    simp only [Cod.caseBad, Bool.not_eq_true, Bool.or_eq_false_iff, Bool.not_eq_false', Cas.moved] at this ⊢
    exact ⟨this.1, child_normed t hi (fun _ => kids_Cases hx) this.2⟩
  have sB : ∀ p, c.some i c.L[i].B p = true → c.normed.some (c.sig i) (mvI c.order c.L[i].B) p = true := fun p h => by
    simp only [Cod.some, Bool.or_eq_true, decide_eq_true_eq] at h ⊢
    rcases h with h | h
    · exact .inl (by rw [h, m1])
    · exact .inr (hB p h)
  have sA : ∀ p, c.some i c.L[i].A p = true → c.normed.some (c.sig i) (mvI c.order c.L[i].A) p = true := fun p h => by
    simp only [Cod.some, Bool.or_eq_true, decide_eq_true_eq] at h ⊢
    rcases h with h | h
    · exact .inl (by rw [h, m1])
    · exact .inr (hA p h)
  have sC : ∀ p, c.some i c.L[i].C p = true → c.normed.some (c.sig i) (mvI c.order c.L[i].C) p = true := fun p h => by
    simp only [Cod.some, Bool.or_eq_true, decide_eq_true_eq] at h ⊢
    rcases h with h | h
    · exact .inl (by rw [h, m1])
    · exact .inr (hC p h)
  have nn : ∀ l : List Int, noneB l = true → noneB (l.map (mvI c.order)) = true := fun l h => by
    simp only [noneB, Bool.not_eq_true', List.any_eq_false, List.mem_map] at h ⊢
    rintro _ ⟨k, hk, rfl⟩
    have : k = -1 := by simpa using h k hk
    rw [this, m1]; simp
  have n3 := nn [c.L[i].A, c.L[i].B, c.L[i].C]
  have n2 := nn [c.L[i].B, c.L[i].C]
  have n1 := nn [c.L[i].C]
  simp only [List.map_cons, List.map_nil] at n1 n2 n3
  unfold Cod.kindRight at h ⊢
  show (if c.L[i].Kind = 1 ∨ c.L[i].Kind = 2 ∨ c.L[i].Kind = 3 ∨ c.L[i].Kind = 4 ∨ c.L[i].Kind = 10 then noneB [mvI c.order c.L[i].A, mvI c.order c.L[i].B, mvI c.order c.L[i].C]
    else if c.L[i].Kind = 5 ∨ c.L[i].Kind = 6 ∨ c.L[i].Kind = 9 ∨ c.L[i].Kind = 12 then c.normed.child (c.sig i) (mvI c.order c.L[i].A) exprB && noneB [mvI c.order c.L[i].B, mvI c.order c.L[i].C]
    else if c.L[i].Kind = 7 then c.normed.child (c.sig i) (mvI c.order c.L[i].A) exprB && c.normed.child (c.sig i) (mvI c.order c.L[i].B) exprB && noneB [mvI c.order c.L[i].C]
    else if c.L[i].Kind = 8 then noneB [mvI c.order c.L[i].A, mvI c.order c.L[i].B, mvI c.order c.L[i].C] && c.normed.all (c.sig i) (c.L[i].L.map (mvI c.order)) exprB
    else if c.L[i].Kind = 11 then noneB [mvI c.order c.L[i].A, mvI c.order c.L[i].B, mvI c.order c.L[i].C] && c.normed.all (c.sig i) (c.L[i].L.map (mvI c.order)) stmtB
    else if c.L[i].Kind = 13 then c.normed.child (c.sig i) (mvI c.order c.L[i].A) placeB && c.normed.child (c.sig i) (mvI c.order c.L[i].B) exprB && noneB [mvI c.order c.L[i].C]
    else if c.L[i].Kind = 14 then c.normed.child (c.sig i) (mvI c.order c.L[i].A) exprB && c.normed.child (c.sig i) (mvI c.order c.L[i].B) blockB && c.normed.some (c.sig i) (mvI c.order c.L[i].C) otherB
    else if c.L[i].Kind = 15 then c.normed.child (c.sig i) (mvI c.order c.L[i].A) exprB && c.normed.child (c.sig i) (mvI c.order c.L[i].B) blockB && noneB [mvI c.order c.L[i].C]
    else if c.L[i].Kind = 16 then c.normed.child (c.sig i) (mvI c.order c.L[i].A) exprB && c.normed.some (c.sig i) (mvI c.order c.L[i].B) blockB && noneB [mvI c.order c.L[i].C] && !(c.L[i].Cases.map (Cas.moved c.order)).any (c.normed.caseBad (c.sig i))
    else if c.L[i].Kind = 17 then c.normed.some (c.sig i) (mvI c.order c.L[i].A) exprB && noneB [mvI c.order c.L[i].B, mvI c.order c.L[i].C]
    else if c.L[i].Kind = 18 then c.normed.child (c.sig i) (mvI c.order c.L[i].A) callB && noneB [mvI c.order c.L[i].B, mvI c.order c.L[i].C]
    else false) = true
  by_cases k : c.L[i].Kind = 1 ∨ c.L[i].Kind = 2 ∨ c.L[i].Kind = 3 ∨ c.L[i].Kind = 4 ∨ c.L[i].Kind = 10
  · rw [if_pos k] at h ⊢; exact n3 h
  rw [if_neg k] at h ⊢; clear k
  by_cases k : c.L[i].Kind = 5 ∨ c.L[i].Kind = 6 ∨ c.L[i].Kind = 9 ∨ c.L[i].Kind = 12
  · rw [if_pos k] at h ⊢; simp only [Bool.and_eq_true, Bool.not_eq_true'] at h ⊢; exact ⟨hA _ h.1, n2 h.2⟩
  rw [if_neg k] at h ⊢; clear k
  by_cases k : c.L[i].Kind = 7
  · rw [if_pos k] at h ⊢; simp only [Bool.and_eq_true, Bool.not_eq_true'] at h ⊢; exact ⟨⟨hA _ h.1.1, hB _ h.1.2⟩, n1 h.2⟩
  rw [if_neg k] at h ⊢; clear k
  by_cases k : c.L[i].Kind = 8
  · rw [if_pos k] at h ⊢; simp only [Bool.and_eq_true, Bool.not_eq_true'] at h ⊢; exact ⟨n3 h.1, hL _ h.2⟩
  rw [if_neg k] at h ⊢; clear k
  by_cases k : c.L[i].Kind = 11
  · rw [if_pos k] at h ⊢; simp only [Bool.and_eq_true, Bool.not_eq_true'] at h ⊢; exact ⟨n3 h.1, hL _ h.2⟩
  rw [if_neg k] at h ⊢; clear k
  by_cases k : c.L[i].Kind = 13
  · rw [if_pos k] at h ⊢; simp only [Bool.and_eq_true, Bool.not_eq_true'] at h ⊢; exact ⟨⟨hA _ h.1.1, hB _ h.1.2⟩, n1 h.2⟩
  rw [if_neg k] at h ⊢; clear k
  by_cases k : c.L[i].Kind = 14
  · rw [if_pos k] at h ⊢; simp only [Bool.and_eq_true, Bool.not_eq_true'] at h ⊢; exact ⟨⟨hA _ h.1.1, hB _ h.1.2⟩, sC _ h.2⟩
  rw [if_neg k] at h ⊢; clear k
  by_cases k : c.L[i].Kind = 15
  · rw [if_pos k] at h ⊢; simp only [Bool.and_eq_true, Bool.not_eq_true'] at h ⊢; exact ⟨⟨hA _ h.1.1, hB _ h.1.2⟩, n1 h.2⟩
  rw [if_neg k] at h ⊢; clear k
  by_cases k : c.L[i].Kind = 16
  · rw [if_pos k] at h ⊢; simp only [Bool.and_eq_true, Bool.not_eq_true'] at h ⊢; exact ⟨⟨⟨hA _ h.1.1.1, sB _ h.1.1.2⟩, n1 h.1.2⟩, hK h.2⟩
  rw [if_neg k] at h ⊢; clear k
  by_cases k : c.L[i].Kind = 17
  · rw [if_pos k] at h ⊢; simp only [Bool.and_eq_true, Bool.not_eq_true'] at h ⊢; exact ⟨sA _ h.1, n2 h.2⟩
  rw [if_neg k] at h ⊢; clear k
  by_cases k : c.L[i].Kind = 18
  · rw [if_pos k] at h ⊢; simp only [Bool.and_eq_true, Bool.not_eq_true'] at h ⊢; exact ⟨hA _ h.1, n2 h.2⟩
  rw [if_neg k] at h ⊢; clear k
  cases h
theorem may_normed {c : Cod} (h : c.may = 0) : c.normed.may = 0 := by
  have t := may_tree h
  have t2 := normed_tree t
  unfold Cod.may at h
  split at h
  · cases h
  rename_i h1
  split at h
  · cases h
  rename_i h2
  split at h
  · cases h
  rename_i h3
  split at h
  · cases h
  split at h
  · cases h
  rename_i h5
  have g1 : ¬ c.normed.counted = false := by
    have : c.normed.counted = c.counted := by
      simp only [Cod.counted, normed_len]
      simp [Cod.normed, Fun.moved, List.any_map, Function.comp_def]
      rfl
    rw [this]; exact h1
  have g2 : ¬ ((List.range c.normed.L.length).all fun i => c.normed.rightB i) = false := by
    simp only [Bool.not_eq_false, List.all_eq_true, List.mem_range] at h2 ⊢
    intro j hj
    rw [normed_len] at hj
    obtain ⟨i, hi, e⟩ := sig_inv t j hj
    have := h2 i hi
    have hg := normed_get t i hi
    simp only [Cod.rightB, List.getElem?_eq_getElem hi, Bool.and_eq_true] at this
    rw [e, Int.toNat_natCast] at hg
    simp only [Cod.rightB, hg, Bool.and_eq_true, plain_moved]
    refine ⟨this.1, ?_⟩
    rw [← e]; exact kind_normed t hi this.2
  have g3 : ¬ (c.normed.Funcs.all fun f => c.normed.child (-1) f.Body blockB) = false := by
    simp only [Bool.not_eq_false, List.all_eq_true] at h3 ⊢
    intro f hf
    obtain ⟨f, hf', rfl⟩ := List.mem_map.1 (show f ∈ c.Funcs.map (Fun.moved c) from hf)
    have hc := h3 f hf'
    have hr := child_range (by omega) hc
    have hs := sig_range t (i := f.Body) (by omega) hr.2
    show c.normed.child (-1) (c.sig f.Body) blockB = true
    unfold Cod.child at hc ⊢
    rw [Bool.and_eq_true] at hc ⊢
    refine ⟨decide_eq_true (by omega), ?_⟩
    obtain ⟨m, e⟩ : ∃ m : Nat, f.Body = m := ⟨f.Body.toNat, by omega⟩
    have h2 := hc.2
    rw [e] at h2 hr ⊢
    rw [normed_get t m (by omega)]
    rw [Int.toNat_natCast, List.getElem?_eq_getElem (by omega)] at h2
    exact h2
  have g4 : ¬ (tally c.normed.L.length (c.normed.L.flatMap Nod.kids ++ c.normed.bodies)).any (fun n => !decide (n = 1)) = true := by
    rw [Bool.not_eq_true, List.any_eq_false]
    intro x hx
    obtain ⟨k, hk, rfl⟩ := List.mem_map.1 hx
    rw [t2.once k (by simpa using hk)]; simp
  have g5 : ¬ c.normed.tooDeep = true := by
    rw [Bool.not_eq_true] at h5 ⊢
    simp only [Cod.tooDeep, List.any_eq_false, List.mem_range] at h5 ⊢
    intro j hj
    rw [normed_len] at hj
    obtain ⟨i, hi, e⟩ := sig_inv t j hj
    have h6 : ¬ decide (60 < c.dp i) = true := h5 i hi
    have := dp_normed t i hi
    rw [e, Int.toNat_natCast] at this
    rw [← this] at h6
    exact h6
  rw [Cod.may, if_neg g1, if_neg g2, if_neg g3, if_neg g4, if_neg g5]

end Go.Eng
