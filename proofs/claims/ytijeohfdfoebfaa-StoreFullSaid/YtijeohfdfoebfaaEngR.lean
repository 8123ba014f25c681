/-
An engine for proofs about Go functions, part R: what the arguments of a law read as is what the contracts speak of; a law's row out of its contract.
-/
import Derived.Test.YtijeohfdfoebfaaEngU
import Derived.Deep.Slices
import Derived.ChangeArms
import Derived.DataReads
set_option linter.all false
namespace Go.Eng
open Go.RowKit Go.Deep
set_option linter.unusedSimpArgs false

/-- A row of cells stands for a row of closed values. -/
def RelL (w : World) (ts : List T) (cs : List Value) : Prop :=
  cs.length = ts.length ∧ ∀ (i : Nat) (x : T), ts[i]? = some x → ∃ u, cs[i]? = some u ∧ RelT (fun b => b < w.heap.size) w x u ∧ u.oneCell' = true

theorem RelL.one {w : World} {x : T} {u : Value} (h : RelT (fun b => b < w.heap.size) w x u) (h1 : u.oneCell' = true) : RelL w [x] [u] := by
  refine ⟨rfl, fun i y hy => ?_⟩
  match i, hy with
  | 0, hy => simp at hy; subst hy; exact ⟨u, rfl, h, h1⟩
  | i + 1, hy => simp at hy

theorem RelL.app {w : World} {a b : List T} {cs : List Value} (k : Nat) (hk : a.length = k) (ha : RelL w a (cs.take k)) (hb : RelL w b (cs.drop k)) : RelL w (a ++ b) cs := by
  obtain ⟨la, ha⟩ := ha
  obtain ⟨lb, hb⟩ := hb
  simp only [List.length_take, List.length_drop] at la lb
  refine ⟨by rw [List.length_append]; omega, fun i x hx => ?_⟩
  rcases Nat.lt_or_ge i k with h | h
  · rw [List.getElem?_append_left (by omega)] at hx
    obtain ⟨u, hu, r⟩ := ha i x hx
    rw [List.getElem?_take, if_pos h] at hu
    exact ⟨u, hu, r⟩
  · rw [List.getElem?_append_right (by omega), hk] at hx
    obtain ⟨u, hu, r⟩ := hb (i - k) x hx
    rw [List.getElem?_drop, show k + (i - k) = i by omega] at hu
    exact ⟨u, hu, r⟩

/-- Whatever reads at type t stands for the rendering of something good. -/
def FitsE (P : Program) {α : Type} (en : α → List T) (G : α → Prop) (t : TypeId) : Prop :=
  ∀ {H : Type} (enc : TypeId × Value → H) (w : World) (fuel : Nat) (cs : List Value) (d : DataW H) (p : List MemPlace),
    DataW.trod enc P w 0 (fun _ => true) true fuel t cs = some (d, p) → (d.weights P t).all (· ≤ reachBytes) = true → ∃ x, RelL w (en x) cs ∧ G x

theorem fitsE_int (P : Program) (k : IntKind) {t : TypeId} (ht : P.underlying t = some (.int k)) : FitsE P (fun n : Int => [.int k n]) (fun n => (Lit.int k n).wf = true) t := by
  intro H enc w fuel cs d p h _
  obtain ⟨n, rfl, _, hw⟩ := DataW.trod_int ht h
  exact ⟨n, .one (.int k n) rfl, hw⟩
theorem fitsE_bool (P : Program) {t : TypeId} (ht : P.underlying t = some .bool) : FitsE P (fun b : Bool => [.bool b]) (fun _ => True) t := by
  intro H enc w fuel cs d p h _
  obtain ⟨b, rfl, _⟩ := DataW.trod_bool ht h
  exact ⟨b, .one (.bool b) rfl, trivial⟩
theorem str_length (s : ByteArray) : s.data.toList.length = s.size := by rw [Array.length_toList]; rfl
theorem fitsE_string (P : Program) {t : TypeId} (ht : P.underlying t = some .string) : FitsE P (fun s : ByteArray => [.str s]) (fun s => s.size ≤ 140737488351232) t := by
  intro H enc w fuel cs d p h hz
  obtain ⟨s, rfl, hx, _⟩ := DataW.trod_string ht h
  obtain ⟨rfl, _⟩ := Prod.mk.inj hx
  refine ⟨s, .one (.str s) rfl, ?_⟩
  have : s.data.toList.length ≤ reachBytes := by simpa [DataW.weights] using hz
  rw [str_length] at this
  exact this

theorem weightsAll_mem {H : Type} {P : Program} {e : TypeId} {l : List (DataW H)} (h : (DataW.weightsAll P e l).all (· ≤ reachBytes) = true) {d : DataW H} (hd : d ∈ l) : (d.weights P e).all (· ≤ reachBytes) = true := by
  induction l with
  | nil => cases hd
  | cons x r ih =>
    simp only [DataW.weightsAll, List.all_append, Bool.and_eq_true] at h
    rcases List.mem_cons.1 hd with rfl | hd
    · exact h.1
    · exact ih h.2 hd

theorem fitsE_slice {P : Program} {α : Type} {en : α → List T} {G : α → Prop} {t e : TypeId} (z : Nat) (hz0 : 0 < z) (hen : ∀ x, (en x).length = z) (ht : P.underlying t = some (.slice e)) (hsz : P.cellsOf e = z) (hb0 : 0 < P.bytesOf e) (he : FitsE P en G e) :
    FitsE P (fun l : List α => [.lst z (l.map en)]) (fun l => l.length ≤ 140737488351232 ∧ ∀ x ∈ l, G x) t := by
  intro H enc w fuel cs d p h hz
  rcases open_slice ht h with ⟨rfl, _⟩ | ⟨a, len, cap, m, n, D, Pl, rfl, _, hl, hm, hmm, hx, hel⟩
  · exact ⟨[], .one (.lst0 z none 0 (fun _ => rfl)) rfl, by simp, fun x hx => by cases hx⟩
  · obtain ⟨rfl, _⟩ := Prod.mk.inj hx
    have hmlen : len ≤ m := by rw [hmm]; simp; exact hl
    simp only [DataW.weights, ht, List.all_cons, List.all_append, Bool.and_eq_true, decide_eq_true_eq] at hz
    obtain ⟨hz0', hz1, hz2⟩ := hz
    have hget : ∀ i, i < len → ∃ x : α, (∃ c, c.length = z ∧ RelL w (en x) c ∧ ∀ j u, c[j]? = some u → w.cell? (a.add (i * z + j)) = some u) ∧ G x := by
      intro i hi
      obtain ⟨cs', h1, h2⟩ := hel i (by omega)
      obtain ⟨x, hK, hG⟩ := he enc w n cs' _ _ h2 (weightsAll_mem hz1 (List.mem_map.2 ⟨i, by simpa using hi, rfl⟩))
      obtain ⟨_, hlen, hcell⟩ := World.cells?_some h1
      rw [hsz] at hlen hcell
      refine ⟨x, ⟨cs', hlen, hK, fun j u hj => ?_⟩, hG⟩
      have hjl : j < z := by
        rcases Nat.lt_or_ge j cs'.length with h' | h'
        · omega
        · rw [List.getElem?_eq_none h'] at hj; cases hj
      rw [← add_add, hcell j hjl]; exact hj
    rcases Nat.eq_zero_or_pos len with rfl | hpos
    · exact ⟨[], .one (.lst0 z (some a) cap (fun h => by cases h)) rfl, by simp, fun x hx => by cases hx⟩
    · obtain ⟨x0, _⟩ := hget 0 hpos
      haveI : Inhabited α := ⟨x0⟩
      obtain ⟨X, hX⟩ := choose_lt hget
      have hlen : ((List.range len).map X).length = len := by simp
      have cell : ∀ i, i < len → ∀ j (y : T), (en (X i))[j]? = some y → ∃ u, w.cell? (a.add (i * z + j)) = some u ∧ RelT (fun b => b < w.heap.size) w y u ∧ u.oneCell' = true := by
        intro i hi j y hy
        obtain ⟨⟨c, hc, ⟨_, hr⟩, hcell⟩, _⟩ := hX i hi
        obtain ⟨u, hu, r1, r2⟩ := hr j y hy
        exact ⟨u, hcell j u hu, r1, r2⟩
      have hex : ∀ i, i < len → ∃ y, (en (X i))[0]? = some y := fun i _ => ⟨_, List.getElem?_eq_getElem (by rw [hen]; exact hz0)⟩
      obtain ⟨ad, o, spot⟩ := a
      have hspot : spot = none := by
        obtain ⟨y, hy⟩ := hex 0 hpos
        obtain ⟨u, hu, _⟩ := cell 0 hpos 0 y hy
        simpa [Addr.add] using World.cell?_spot hu
      subst hspot
      have hadd : ∀ n, Addr.add ⟨ad, o, none⟩ n = ⟨ad, o + n, none⟩ := by intro n; unfold Addr.add; split <;> simp_all
      have hat : ∀ (i : Nat) (e : List T) (j : Nat) (x : T), (((List.range len).map X).map en)[i]? = some e → e[j]? = some x → i < len ∧ e = en (X i) := by
        intro i e j x h1 _
        have hil : i < len := by
          rcases Nat.lt_or_ge i len with h' | h'
          · exact h'
          · rw [List.getElem?_eq_none (by simpa using h')] at h1; cases h1
        refine ⟨hil, ?_⟩
        rw [List.getElem?_map, List.getElem?_map, List.getElem?_range hil] at h1
        simpa using h1.symm
      have hall : ∀ (i : Nat) (e : List T) (j : Nat) (x : T), (((List.range len).map X).map en)[i]? = some e → e[j]? = some x →
          ∃ u, w.cell? ⟨ad, o + i * z + j, none⟩ = some u ∧ RelT (fun b => b < w.heap.size) w x u ∧ u.oneCell' = true := by
        intro i e j x h1 h2
        obtain ⟨hil, rfl⟩ := hat i e j x h1 h2
        obtain ⟨u, hu, r⟩ := cell i hil j x h2
        rw [hadd, show o + (i * z + j) = o + i * z + j by omega] at hu
        exact ⟨u, hu, r⟩
      have hI : ad < w.heap.size := by
        obtain ⟨y, hy⟩ := hex 0 hpos
        obtain ⟨u, hu, _⟩ := cell 0 hpos 0 y hy
        rw [hadd] at hu
        unfold World.cell? at hu
        rcases Nat.lt_or_ge ad w.heap.size with h' | h'
        · exact h'
        · rw [Array.getElem?_eq_none h'] at hu; cases hu
      have hr : RelT (fun b => b < w.heap.size) w (.lst z (((List.range len).map X).map en)) (.slice (some ⟨ad, o, none⟩) (((List.range len).map X).map en).length cap) := by
        refine .lst z (((List.range len).map X).map en) ad o cap (fun i j => (w.cell? ⟨ad, o + i * z + j, none⟩).getD (.bool false)) (by simpa using hl) hm hI ?_ ?_ ?_ ?_
        · intro i e h1
          have := List.mem_of_getElem? h1
          obtain ⟨x, _, rfl⟩ := List.mem_map.1 this
          exact hen x
        · intro i e j x h1 h2
          obtain ⟨u, hu, _⟩ := hall i e j x h1 h2
          rw [hu]; rfl
        · intro i e j x h1 h2
          obtain ⟨u, hu, _, r⟩ := hall i e j x h1 h2
          simp only [hu]; exact r
        · intro i e j x h1 h2
          obtain ⟨u, hu, r, _⟩ := hall i e j x h1 h2
          simp only [hu]; exact r
      refine ⟨(List.range len).map X, ?_, ?_, ?_⟩
      · have hl2 : (((List.range len).map X).map en).length = len := by simp
        rw [hl2] at hr
        exact .one hr rfl
      · rw [hlen]
        have : (((List.range len).map D).length + ((List.range (m - len)).map fun j => D (len + j)).length) * P.bytesOf e ≤ reachBytes := hz0'
        simp only [List.length_map, List.length_range] at this
        have h2 : len * 1 ≤ (len + (m - len)) * P.bytesOf e := Nat.mul_le_mul (by omega) hb0
        rw [Nat.mul_one] at h2
        exact Nat.le_trans h2 this
      · intro x hx
        obtain ⟨i, hi, rfl⟩ := List.mem_map.1 hx
        exact (hX i (by simpa using hi)).2

/-- A row of fields, one behind the other from a place on. -/
def FitsEF (P : Program) {α : Type} (en : α → List T) (G : α → Prop) (fs : List Field) (off z : Nat) : Prop :=
  ∀ {H : Type} (enc : TypeId × Value → H) (w : World) (fuel : Nat) (cs : List Value) (xs : List (DataW H × List MemPlace)),
    (∀ (i : Nat) (f : Field), fs[i]? = some f → DataW.trod enc P w 0 (fun _ => true) true fuel f.type ((cs.drop f.offset).take (P.cellsOf f.type)) = xs[i]?) → xs.length = fs.length →
    cs.length = off + z → (DataW.weightsEach P (fs.map (·.type)) (xs.map (·.1))).all (· ≤ reachBytes) = true → ∃ x, RelL w (en x) (cs.drop off) ∧ G x

theorem fitsEF_one {P : Program} {α : Type} {en : α → List T} {G : α → Prop} {f : Field} (off z : Nat) (h : FitsE P en G f.type) (ho : f.offset = off) (hc : P.cellsOf f.type = z) : FitsEF P en G [f] off z := by
  intro H enc w fuel cs xs hx hl hcs hz
  obtain ⟨⟨d, p⟩, rfl⟩ : ∃ y, xs = [y] := by
    match xs, hl with
    | [y], _ => exact ⟨y, rfl⟩
  have h0 := hx 0 f rfl
  rw [ho, hc, List.take_of_length_le (by rw [List.length_drop]; omega)] at h0
  simp only [List.map_cons, List.map_nil, DataW.weightsEach, List.append_nil] at hz
  exact h enc w fuel _ d p h0 hz

theorem fitsEF_cons {P : Program} {α β : Type} {en : α → List T} {G : α → Prop} {en' : β → List T} {G' : β → Prop} {f : Field} {fs : List Field} (off k z : Nat) (h : FitsE P en G f.type) (hen : ∀ x, (en x).length = k) (ho : f.offset = off) (hc : P.cellsOf f.type = k) (hr : FitsEF P en' G' fs (off + k) z) :
    FitsEF P (fun x : α × β => en x.1 ++ en' x.2) (fun x => G x.1 ∧ G' x.2) (f :: fs) off (k + z) := by
  intro H enc w fuel cs xs hx hl hcs hz
  obtain ⟨⟨d, p⟩, ys, rfl⟩ : ∃ y ys, xs = y :: ys := by
    match xs, hl with
    | y :: ys, _ => exact ⟨y, ys, rfl⟩
  have h0 := hx 0 f rfl
  rw [ho, hc] at h0
  simp only [List.map_cons, DataW.weightsEach, List.all_append, Bool.and_eq_true] at hz
  obtain ⟨x, hK, hG⟩ := h enc w fuel _ d p h0 hz.1
  obtain ⟨y, hK', hG'⟩ := hr enc w fuel cs ys (fun i g hg => hx (i + 1) g hg) (by simpa using hl) (by omega) hz.2
  refine ⟨(x, y), .app k (hen x) hK (by rw [List.drop_drop]; exact hK'), hG, hG'⟩

theorem fitsE_struct {P : Program} {α : Type} {en : α → List T} {G : α → Prop} {t : TypeId} {fs : Array Field} (z : Nat) (ht : P.underlying t = some (.struct fs)) (hc : P.cellsOf t = z) (h : FitsEF P en G fs.toList 0 z) : FitsE P en G t := by
  intro H enc w fuel cs d p hd hz
  obtain ⟨xs, n, rfl, hx, hl, hxl, hf⟩ := DataW.trod_struct ht hd
  obtain ⟨rfl, _⟩ := Prod.mk.inj hx
  simp only [DataW.weights, ht] at hz
  have := h enc w n cs xs (fun i f hi => hf i f (by simpa using hi)) (by simpa using hxl) (by omega) hz
  simpa using this

theorem fitsE_iso {P : Program} {α β : Type} {en : α → List T} {en' : β → List T} {G : α → Prop} {t : TypeId} (g : α → β) (hg : ∀ y, en' (g y) = en y) {G' : β → Prop} (hG : ∀ y, G y → G' (g y)) (h : FitsE P en G t) : FitsE P en' G' t := by
  intro H enc w fuel cs d p hd hz
  obtain ⟨y, hK, hy⟩ := h enc w fuel cs d p hd hz
  exact ⟨g y, by rw [hg]; exact hK, hG y hy⟩

/-- The weights of one argument among all. -/
theorem weightsE_at {H : Type} {P : Program} : ∀ {ts : List TypeId} {ds : List (DataW H)}, (DataW.weightsEach P ts ds).all (· ≤ reachBytes) = true → ∀ {j : Nat} {t : TypeId} {d : DataW H}, ts[j]? = some t → ds[j]? = some d → (d.weights P t).all (· ≤ reachBytes) = true
  | [], _, _, j, _, _, h, _ => by simp at h
  | _ :: _, [], _, j, _, _, _, h => by simp at h
  | t :: ts, d :: ds, h, 0, _, _, h1, h2 => by
    simp only [DataW.weightsEach, List.all_append, Bool.and_eq_true] at h
    simp at h1 h2; subst h1 h2
    exact h.1
  | t :: ts, d :: ds, h, j + 1, _, _, h1, h2 => by
    simp only [DataW.weightsEach, List.all_append, Bool.and_eq_true] at h
    exact weightsE_at h.2 (by simpa using h1) (by simpa using h2)

/-- An argument that reads, opened. -/
theorem openE_at {H : Type} {enc : TypeId × Value → H} {P : Program} {W : World} {α : Type} {en : α → List T} {G : α → Prop} {t : TypeId} (h : FitsE P en G t) {v : Value} {d : DataW H} {p : List MemPlace}
    (hj : DataW.Trod enc P W 0 (fun _ => true) true t v d p) (hz : (d.weights P t).all (· ≤ reachBytes) = true) : ∃ x, RelL W (en x) v.cells.toList ∧ G x := by
  obtain ⟨fuel, hf⟩ := hj
  exact h enc W fuel _ d p hf hz

/-- One value that stands for one closed value. -/
theorem RelL.toT {w : World} {x : T} {v : Value} (h : RelL w [x] v.cells.toList) (hv : v.cells = #[v]) : RelT (fun b => b < w.heap.size) w x v := by
  obtain ⟨_, h⟩ := h
  obtain ⟨u, hu, r, _⟩ := h 0 x rfl
  rw [hv] at hu
  simp at hu; subst hu; exact r

theorem RelL.toAgg {w : World} {ts : List T} {us : Array Value} (h : RelL w ts us.toList) : RelT (fun b => b < w.heap.size) w (.agg ts) (.agg us) := by
  obtain ⟨hl, h⟩ := h
  refine .agg ts us (fun i => us[i]?.getD (.bool false)) (by simpa using hl) ?_ ?_ ?_
  · intro i x hx
    obtain ⟨u, hu, _⟩ := h i x hx
    have hu : us[i]? = some u := by simpa using hu
    simp [hu]
  · intro i x hx
    obtain ⟨u, hu, _, r⟩ := h i x hx
    have hu : us[i]? = some u := by simpa using hu
    simp [hu, r]
  · intro i x hx
    obtain ⟨u, hu, r, _⟩ := h i x hx
    have hu : us[i]? = some u := by simpa using hu
    simp [hu, r]

end Go.Eng
