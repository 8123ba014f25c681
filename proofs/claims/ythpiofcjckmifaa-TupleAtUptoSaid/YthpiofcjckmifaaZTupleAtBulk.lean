/- tuple.At and tuple.Text answer as the document says, for every word (cut to 100), place, number, text (cut to 50 bytes) and names (cut to 70), where no name is longer than 1048576 bytes: what strings.Join makes has to fit. -/
import Derived.Test.YthpiofcjckmifaaRows
import Derived.Test.YthpiofcjckmifaaZTupleAtReads
namespace Go.Proofs.Ythpiofcjckmifaa.Bulk
open Go.RowKit Go.Proofs.YthpiofcjckmifaaW.PrintWords Go.Deep Go.Proofs.Ythpiofcjckmifaa.Reads
def FitsU (P : Program) {α : Type} (K : Kd α) (G : α → Prop) (t : TypeId) : Prop :=
  ∀ {H : Type} (enc : TypeId × Value → H) (w : World) (fuel : Nat) (cs : List Value) (d : DataW H) (p : List MemPlace),
    DataW.trod enc P w 0 (fun _ => true) true fuel t cs = some (d, p) → (d.weights P t).all (· ≤ reachBytes) = true → Rows.uptoBulk d ≤ 1048576 → ∃ x, K.K w x cs ∧ G x
theorem bulk_mem {H : Type} : ∀ {l : List (DataW H)} {d : DataW H}, d ∈ l → Rows.uptoBulk d ≤ Rows.uptoBulkAll l
  | [], _, hd => by cases hd
  | x :: r, d, hd => by
    rw [Rows.uptoBulkAll]
    rcases List.mem_cons.1 hd with rfl | hd
    · omega
    · have := bulk_mem hd
      omega
theorem fitsU_string (P : Program) {t : TypeId} (ht : P.underlying t = some .string) : FitsU P Kd.string (fun s => s.size ≤ 1048576) t := by
  intro H enc w fuel cs d p h hz hb
  obtain ⟨s, rfl, hx, _⟩ := DataW.trod_string ht h
  obtain ⟨rfl, _⟩ := Prod.mk.inj hx
  refine ⟨s, rfl, ?_⟩
  simp only [Rows.uptoBulk] at hb
  rw [data_length] at hb
  omega
theorem fitsU_slice {P : Program} {α : Type} {K : Kd α} {G : α → Prop} {t e : TypeId} (e' b : Nat) (ht : P.underlying t = some (.slice e)) (hsz : P.cellsOf e = K.sz) (hb : P.bytesOf e = b) (he : FitsU P K G e) :
    FitsU P (Kd.slice e' K) (fun l => l.length * b ≤ 140737488351232 ∧ l.length ≤ 9223372036854775807 ∧ ∀ x ∈ l, G x) t := by
  intro H enc w fuel cs d p h hz hbk
  rcases open_slice ht h with ⟨rfl, _⟩ | ⟨a, len, cap, m, n, D, Pl, rfl, _, hl, hm, hmm, hx, hel⟩
  · exact ⟨[], ⟨none, 0, rfl, Nat.le_refl _, rfl, by simp, fun h => absurd h (by simp)⟩, by simp, by simp, fun x hx => by cases hx⟩
  · obtain ⟨rfl, _⟩ := Prod.mk.inj hx
    have hmlen : len ≤ m := by rw [hmm]; simp; exact hl
    simp only [DataW.weights, ht, List.all_cons, List.all_append, Bool.and_eq_true, decide_eq_true_eq] at hz
    obtain ⟨hz0, hz1, hz2⟩ := hz
    rw [Rows.uptoBulk] at hbk
    have hget : ∀ i, i < len → ∃ x : α, (∃ c, c.length = K.sz ∧ K.K w x c ∧ ∀ j u, c[j]? = some u → w.cell? (a.add (i * K.sz + j)) = some u) ∧ G x := by
      intro i hi
      obtain ⟨cs', h1, h2⟩ := hel i (by omega)
      have hmem : D i ∈ (List.range len).map D := List.mem_map.2 ⟨i, by simpa using hi, rfl⟩
      obtain ⟨x, hK, hG⟩ := he enc w n cs' _ _ h2 (all_of_mem hz1 hmem) (Nat.le_trans (bulk_mem hmem) (by omega))
      obtain ⟨_, hlen, hcell⟩ := World.cells?_some h1
      rw [hsz] at hlen hcell
      refine ⟨x, ⟨cs', hlen, hK, fun j u hj => ?_⟩, hG⟩
      have hjl : j < K.sz := by
        rcases Nat.lt_or_ge j cs'.length with h' | h'
        · omega
        · rw [List.getElem?_eq_none h'] at hj; cases hj
      rw [← Addr.add_add, hcell j hjl]; exact hj
    rcases Nat.eq_zero_or_pos len with rfl | hpos
    · exact ⟨[], ⟨some a, cap, rfl, Nat.zero_le _, rfl, by simp, fun h => absurd h (by simp)⟩, by simp, by simp, fun x hx => by cases hx⟩
    · obtain ⟨x0, _⟩ := hget 0 hpos
      haveI : Inhabited α := ⟨x0⟩
      obtain ⟨X, hX⟩ := choose_lt hget
      have hlen : ((List.range len).map X).length = len := by simp
      refine ⟨(List.range len).map X, ⟨some a, cap, by rw [hlen], by rw [hlen]; exact hl, by rw [hlen], by rw [hlen]; unfold maxLen at hm; omega, fun _ => ⟨a, rfl, fun j x hj => ?_⟩⟩, ?_, ?_, ?_⟩
      · have hjl : j < len := by
          rcases Nat.lt_or_ge j len with h' | h'
          · exact h'
          · rw [List.getElem?_eq_none (by rw [hlen]; exact h')] at hj; cases hj
        rw [List.getElem?_map, List.getElem?_range hjl] at hj
        simp only [Option.map_some, Option.some.injEq] at hj
        subst hj
        exact (hX j hjl).1
      · rw [hlen, ← hb]
        have : (((List.range len).map D).length + ((List.range (m - len)).map fun j => D (len + j)).length) * P.bytesOf e ≤ reachBytes := hz0
        simp only [List.length_map, List.length_range] at this
        have h2 : len * P.bytesOf e ≤ (len + (m - len)) * P.bytesOf e := Nat.mul_le_mul_right _ (by omega)
        exact Nat.le_trans h2 this
      · rw [hlen]; unfold maxLen at hm; omega
      · intro x hx
        obtain ⟨i, hi, rfl⟩ := List.mem_map.1 hx
        exact (hX i (by simpa using hi)).2
theorem openU_at {H : Type} {enc : TypeId × Value → H} {P : Program} {W : World} {α : Type} {K : Kd α} {G : α → Prop} {t : TypeId} (h : FitsU P K G t) {v : Value} {d : DataW H} {p : List MemPlace}
    (hj : DataW.Trod enc P W 0 (fun _ => true) true t v d p) (hz : (d.weights P t).all (· ≤ reachBytes) = true) (hb : Rows.uptoBulk d ≤ 1048576) : ∃ x, K.K W x v.cells.toList ∧ G x := by
  obtain ⟨fuel, hf⟩ := hj
  exact h enc W fuel _ d p hf hz hb
end Go.Proofs.Ythpiofcjckmifaa.Bulk
