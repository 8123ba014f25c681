/-
An engine for proofs about Go functions, part C: how values and memory of part A stand for the model's, and that it stays so.
-/
import Derived.Test.YtijeohfdfoebfaaEngB
import Derived.Below
set_option linter.all false
namespace Go.Eng
open Go.RowKit

structure Loc where
  b : Nat
  z : Nat
  tot : Nat

/-- A closed value stands for a value; I: the blocks that nobody writes. -/
inductive RelT (I : Nat → Prop) (w : World) : T → Value → Prop where
  | bool (b : Bool) : RelT I w (.bool b) (.bool b)
  | int (k : IntKind) (n : Int) : RelT I w (.int k n) (.int k n)
  | str (s : ByteArray) : RelT I w (.str s) (.string s)
  | nils : RelT I w .nils (.slice none 0 0)
  | nilp : RelT I w .nilp (.pointer none)
  | nilf : RelT I w .nilf .nilFunc
  | lst0 (z : Nat) (a : Option Addr) (cap : Nat) (ha : a = none → cap = 0) : RelT I w (.lst z []) (.slice a 0 cap)
  | emp (a : Addr) (cap : Nat) : RelT I w .emp (.slice (some a) 0 cap)
  | lst (z : Nat) (es : List (List T)) (b o cap : Nat) (us : Nat → Nat → Value) (hl : es.length ≤ cap) (hm : cap ≤ maxLen) (hI : I b)
      (hz : ∀ (i : Nat) (e : List T), es[i]? = some e → e.length = z)
      (hc : ∀ (i : Nat) (e : List T) (j : Nat) (x : T), es[i]? = some e → e[j]? = some x → w.cell? ⟨b, o + i * z + j, none⟩ = some (us i j))
      (ho : ∀ (i : Nat) (e : List T) (j : Nat) (x : T), es[i]? = some e → e[j]? = some x → (us i j).oneCell' = true)
      (hr : ∀ (i : Nat) (e : List T) (j : Nat) (x : T), es[i]? = some e → e[j]? = some x → RelT I w x (us i j)) : RelT I w (.lst z es) (.slice (some ⟨b, o, none⟩) es.length cap)
  | ref (z : Nat) (es : List (List T)) (b o i j : Nat) (us : Nat → Nat → Value) (hI : I b)
      (hz : ∀ (i : Nat) (e : List T), es[i]? = some e → e.length = z)
      (hc : ∀ (i : Nat) (e : List T) (j : Nat) (x : T), es[i]? = some e → e[j]? = some x → w.cell? ⟨b, o + i * z + j, none⟩ = some (us i j))
      (ho : ∀ (i : Nat) (e : List T) (j : Nat) (x : T), es[i]? = some e → e[j]? = some x → (us i j).oneCell' = true)
      (hr : ∀ (i : Nat) (e : List T) (j : Nat) (x : T), es[i]? = some e → e[j]? = some x → RelT I w x (us i j)) : RelT I w (.ref z es i j) (.pointer (some ⟨b, o + i * z + j, none⟩))
  | fn (f : Nat) (cs : List T) (us : Array Value) (vs : Nat → Value) (hs : us.size = cs.length)
      (hc : ∀ (i : Nat) (x : T), cs[i]? = some x → us[i]? = some (vs i)) (hr : ∀ (i : Nat) (x : T), cs[i]? = some x → RelT I w x (vs i)) : RelT I w (.fn f cs) (.func (.func f) #[] us)
  | agg (cs : List T) (us : Array Value) (vs : Nat → Value) (hs : us.size = cs.length)
      (hc : ∀ (i : Nat) (x : T), cs[i]? = some x → us[i]? = some (vs i)) (ho : ∀ (i : Nat) (x : T), cs[i]? = some x → (vs i).oneCell' = true) (hr : ∀ (i : Nat) (x : T), cs[i]? = some x → RelT I w x (vs i)) : RelT I w (.agg cs) (.agg us)
  | tup (cs : List T) (us : Array Value) (vs : Nat → Value) (hs : us.size = cs.length)
      (hc : ∀ (i : Nat) (x : T), cs[i]? = some x → us[i]? = some (vs i)) (hr : ∀ (i : Nat) (x : T), cs[i]? = some x → RelT I w x (vs i)) : RelT I w (.tup cs) (.tuple us)

theorem RelT.mono {I I' : Nat → Prop} {w w' : World} {x : T} {v : Value} (h : RelT I w x v) (hI : ∀ b, I b → I' b) (hw : ∀ b, I b → w'.heap[b]? = w.heap[b]?) : RelT I' w' x v := by
  induction h with
  | bool b => exact .bool b
  | int k n => exact .int k n
  | str s => exact .str s
  | nils => exact .nils
  | nilp => exact .nilp
  | nilf => exact .nilf
  | lst0 z a cap ha => exact .lst0 z a cap ha
  | emp a cap => exact .emp a cap
  | lst z es b o cap us hl hm hb hz hc ho hr ih => exact .lst z es b o cap us hl hm (hI b hb) hz (fun i e j x h1 h2 => (World.cell?_of_block (hw b hb)).trans (hc i e j x h1 h2)) ho ih
  | ref z es b o i j us hb hz hc ho hr ih => exact .ref z es b o i j us (hI b hb) hz (fun i e j x h1 h2 => (World.cell?_of_block (hw b hb)).trans (hc i e j x h1 h2)) ho ih
  | fn f cs us vs hs hc hr ih => exact .fn f cs us vs hs hc ih
  | agg cs us vs hs hc ho hr ih => exact .agg cs us vs hs hc ho ih
  | tup cs us vs hs hc hr ih => exact .tup cs us vs hs hc ih

/-- An open value stands for a value; s: where the named objects lie. -/
inductive RelV (s : Nat → Option Loc) (I : Nat → Prop) (w : World) : V → Value → Prop where
  | und (v : Value) : RelV s I w .und v
  | t (x : T) (v : Value) (h : RelT I w x v) : RelV s I w (.t x) v
  | ptr (n i j : Nat) (L : Loc) (h : s n = some L) : RelV s I w (.ptr n i j) (.pointer (some ⟨L.b, i * L.z + j, none⟩))
  | slc (n i len : Nat) (L : Loc) (o cap : Nat) (h : s n = some L) (hl : len ≤ cap) (hm : cap ≤ maxLen) (ho : o = i * L.z ∨ cap = 0) (h0 : i = 0 → o = 0) (ht : (i + cap) * L.z = L.tot) : RelV s I w (.slc n L.z i len) (.slice (some ⟨L.b, o, none⟩) len cap)
  | fnv (f : Nat) (cs : List V) (us : Array Value) (vs : Nat → Value) (hs : us.size = cs.length)
      (hc : ∀ (i : Nat) (x : V), cs[i]? = some x → us[i]? = some (vs i)) (hr : ∀ (i : Nat) (x : V), cs[i]? = some x → RelV s I w x (vs i)) : RelV s I w (.fnv f cs) (.func (.func f) #[] us)
  | agg (cs : List V) (us : Array Value) (vs : Nat → Value) (hs : us.size = cs.length)
      (hc : ∀ (i : Nat) (x : V), cs[i]? = some x → us[i]? = some (vs i)) (ho : ∀ (i : Nat) (x : V), cs[i]? = some x → (vs i).oneCell' = true) (hr : ∀ (i : Nat) (x : V), cs[i]? = some x → RelV s I w x (vs i)) : RelV s I w (.agg cs) (.agg us)
  | tup (cs : List V) (us : Array Value) (vs : Nat → Value) (hs : us.size = cs.length)
      (hc : ∀ (i : Nat) (x : V), cs[i]? = some x → us[i]? = some (vs i)) (hr : ∀ (i : Nat) (x : V), cs[i]? = some x → RelV s I w x (vs i)) : RelV s I w (.tup cs) (.tuple us)

theorem RelV.mono {s : Nat → Option Loc} {I I' : Nat → Prop} {w w' : World} {x : V} {v : Value} (h : RelV s I w x v) (hI : ∀ b, I b → I' b) (hw : ∀ b, I b → w'.heap[b]? = w.heap[b]?) : RelV s I' w' x v := by
  induction h with
  | und v => exact .und v
  | t x v h => exact .t x v (h.mono hI hw)
  | ptr n i j L h => exact .ptr n i j L h
  | slc n i len L o cap h hl hm ho h0 ht => exact .slc n i len L o cap h hl hm ho h0 ht
  | fnv f cs us vs hs hc hr ih => exact .fnv f cs us vs hs hc ih
  | agg cs us vs hs hc ho hr ih => exact .agg cs us vs hs hc ho ih
  | tup cs us vs hs hc hr ih => exact .tup cs us vs hs hc ih

theorem woL_get (n : Nat) : ∀ (cs : List V) (i : Nat), (V.woL n cs)[i]? = (cs[i]?).map (V.wo n)
  | [], i => by simp [V.woL]
  | v :: r, 0 => by simp [V.woL]
  | v :: r, i + 1 => by simp [V.woL, woL_get n r i]

theorem woL_length (n : Nat) : ∀ (cs : List V), (V.woL n cs).length = cs.length
  | [] => rfl
  | v :: r => by simp [V.woL, woL_length n r]

/-- A place of a name that the value does not bear may be set anew. -/
def upd (s : Nat → Option Loc) (d : Nat) (L : Loc) : Nat → Option Loc := fun n => if n = d then some L else s n

theorem upd_self (s : Nat → Option Loc) (d : Nat) (L : Loc) : upd s d L d = some L := by simp [upd]
theorem upd_ne {s : Nat → Option Loc} {d n : Nat} {L : Loc} (h : n ≠ d) : upd s d L n = s n := by simp [upd, h]

theorem beq_no {n m : Nat} (h : n ≠ m) : Nat.beq n m = false := Bool.eq_false_iff.2 fun e => h (Nat.eq_of_beq_eq_true e)
theorem beq_yes {n m : Nat} (h : Nat.beq n m = true) : n = m := Nat.eq_of_beq_eq_true h

theorem RelV.wo {s s' : Nat → Option Loc} {I : Nat → Prop} {w : World} {x : V} {v : Value} {d : Nat} (h : RelV s I w x v) (hs : ∀ n, n ≠ d → s' n = s n) : RelV s' I w (x.wo d) v := by
  induction h with
  | und v => exact .und v
  | t x v h => exact .t x v h
  | ptr n i j L h =>
    by_cases e : n = d
    · subst e; simp only [V.wo, Nat.beq_refl]; exact .und _
    · have hb : Nat.beq n d = false := beq_no e
      simp only [V.wo, hb]; exact .ptr n i j L ((hs n e).trans h)
  | slc n i len L o cap h hl hm ho h0 ht =>
    by_cases e : n = d
    · subst e; simp only [V.wo, Nat.beq_refl]; exact .und _
    · have hb : Nat.beq n d = false := beq_no e
      simp only [V.wo, hb]; exact .slc n i len L o cap ((hs n e).trans h) hl hm ho h0 ht
  | fnv f cs us vs hss hc hr ih =>
    refine .fnv f _ us vs (by rw [woL_length]; exact hss) ?_ ?_
    · intro i x hx; rw [woL_get] at hx; obtain ⟨y, hy, rfl⟩ := Option.map_eq_some_iff.1 hx; exact hc i y hy
    · intro i x hx; rw [woL_get] at hx; obtain ⟨y, hy, rfl⟩ := Option.map_eq_some_iff.1 hx; exact ih i y hy
  | agg cs us vs hss hc ho hr ih =>
    refine .agg _ us vs (by rw [woL_length]; exact hss) ?_ ?_ ?_
    · intro i x hx; rw [woL_get] at hx; obtain ⟨y, hy, rfl⟩ := Option.map_eq_some_iff.1 hx; exact hc i y hy
    · intro i x hx; rw [woL_get] at hx; obtain ⟨y, hy, rfl⟩ := Option.map_eq_some_iff.1 hx; exact ho i y hy
    · intro i x hx; rw [woL_get] at hx; obtain ⟨y, hy, rfl⟩ := Option.map_eq_some_iff.1 hx; exact ih i y hy
  | tup cs us vs hss hc hr ih =>
    refine .tup _ us vs (by rw [woL_length]; exact hss) ?_ ?_
    · intro i x hx; rw [woL_get] at hx; obtain ⟨y, hy, rfl⟩ := Option.map_eq_some_iff.1 hx; exact hc i y hy
    · intro i x hx; rw [woL_get] at hx; obtain ⟨y, hy, rfl⟩ := Option.map_eq_some_iff.1 hx; exact ih i y hy

/-- What a named object is in the world. -/
def Own (s : Nat → Option Loc) (I : Nat → Prop) (w : World) (L : Loc) : Ob → Prop
  | .box cs => ∃ (C : Array Value) (el : TypeId), w.heap[L.b]? = some (.cells C el (0, 0)) ∧ C.size = L.tot ∧ L.z = cs.length ∧ C.size = cs.length ∧
      ∀ (i : Nat) (v : V), cs[i]? = some v → ∃ u, C[i]? = some u ∧ RelV s I w v u ∧ u.oneCell' = true
  | .row ty z es => ∃ (C : Array Value), w.heap[L.b]? = some (.cells C ty (0, 0)) ∧ C.size = L.tot ∧ L.z = z ∧ 0 < z ∧ es.length * z ≤ C.size ∧ (∀ (i : Nat) (e : List T), es[i]? = some e → e.length = z) ∧
      ∀ (i : Nat) (e : List T) (j : Nat) (x : T), es[i]? = some e → e[j]? = some x → ∃ u, C[i * z + j]? = some u ∧ RelT I w x u ∧ u.oneCell' = true

theorem Own.mono {s s' : Nat → Option Loc} {I I' : Nat → Prop} {w w' : World} {L : Loc} {o : Ob} (h : Own s I w L o) (hI : ∀ b, I b → I' b) (hw : ∀ b, I b → w'.heap[b]? = w.heap[b]?) (hb : w'.heap[L.b]? = w.heap[L.b]?)
    (hs : ∀ v u, RelV s I w v u → RelV s' I w v u) : Own s' I' w' L o := by
  cases o with
  | box cs =>
    obtain ⟨C, el, h1, h2, h3, h4, h5⟩ := h
    exact ⟨C, el, hb.trans h1, h2, h3, h4, fun i v hv => let ⟨u, a, b, c⟩ := h5 i v hv; ⟨u, a, (hs _ _ b).mono hI hw, c⟩⟩
  | row ty z es =>
    obtain ⟨C, h1, h2, h3, h4, h5, h6, h7⟩ := h
    exact ⟨C, hb.trans h1, h2, h3, h4, h5, h6, fun i e j x he hx => let ⟨u, a, b, c⟩ := h7 i e j x he hx; ⟨u, a, b.mono hI hw, c⟩⟩

theorem Own.wo {s s' : Nat → Option Loc} {I I' : Nat → Prop} {w w' : World} {L : Loc} {o : Ob} {d : Nat} (h : Own s I w L o) (hI : ∀ b, I b → I' b) (hw : ∀ b, I b → w'.heap[b]? = w.heap[b]?) (hb : w'.heap[L.b]? = w.heap[L.b]?)
    (hs : ∀ n, n ≠ d → s' n = s n) : Own s' I' w' L (o.wo d) := by
  cases o with
  | box cs =>
    obtain ⟨C, el, h1, h2, h3, h4, h5⟩ := h
    refine ⟨C, el, hb.trans h1, h2, by rw [woL_length]; exact h3, by rw [woL_length]; exact h4, fun i v hv => ?_⟩
    rw [woL_get] at hv; obtain ⟨y, hy, rfl⟩ := Option.map_eq_some_iff.1 hv
    obtain ⟨u, a, b, c⟩ := h5 i y hy
    exact ⟨u, a, (b.wo hs).mono hI hw, c⟩
  | row ty z es =>
    obtain ⟨C, h1, h2, h3, h4, h5, h6, h7⟩ := h
    exact ⟨C, hb.trans h1, h2, h3, h4, h5, h6, fun i e j x he hx => let ⟨u, a, b, c⟩ := h7 i e j x he hx; ⟨u, a, b.mono hI hw, c⟩⟩

/-- Memory as the engine has it stands for the world. -/
structure Rep (s : Nat → Option Loc) (I : Nat → Prop) (w : World) (h : Lk) : Prop where
  own : ∀ n o L, h n = some o → s n = some L → Own s I w L o ∧ ¬ I L.b
  inj : ∀ n m L M, h n ≠ none → h m ≠ none → s n = some L → s m = some M → L.b = M.b → n = m
  old : ∀ b, I b → b < w.heap.size

theorem Rep.lt {s : Nat → Option Loc} {I : Nat → Prop} {w : World} {h : Lk} (r : Rep s I w h) {n : Nat} {o : Ob} {L : Loc} (hn : h n = some o) (hs : s n = some L) : L.b < w.heap.size := by
  have := (r.own n o L hn hs).1
  cases o with
  | box cs => obtain ⟨C, el, h1, _⟩ := this; exact (Array.getElem?_eq_some_iff.1 h1).1
  | row ty z es => obtain ⟨C, h1, _⟩ := this; exact (Array.getElem?_eq_some_iff.1 h1).1

/-- The lookups behind an effect. -/
def Ef.lk (d : Nat) (h : Lk) : Ef → Lk
  | .non => h
  | .add o => fun n => if n = d then some o else (h n).map (Ob.wo d)
  | .set m o => fun n => if n = m then some o else h n
  | .mov m o => fun n => if n = d then some o else if n = m then none else (h n).map (Ob.wo d)
  | .del m => fun n => if n = m then none else h n

theorem look_cons {α : Type} (k n : Nat) (x : α) (r : List (Nat × α)) : look ((k, x) :: r) n = if n = k then some x else look r n := by
  by_cases e : n = k
  · subst e; simp [look]
  · simp [look, beq_no (Ne.symm e), e]

theorem look_drop {α : Type} (m n : Nat) : ∀ r : List (Nat × α), look (drop r m) n = if n = m then none else look r n
  | [] => by simp [drop, look]
  | (k, x) :: r => by
    by_cases e : k = m
    · subst e
      simp only [drop, Nat.beq_refl, look_cons, look_drop]
      split <;> simp_all
    · simp only [drop, beq_no e, look_cons, look_drop]
      split <;> simp_all

theorem look_woHp (d n : Nat) : ∀ r : Hp, look (woHp d r) n = if n = d then none else (look r n).map (Ob.wo d)
  | [] => by simp [woHp, look]
  | (k, x) :: r => by
    by_cases e : k = d
    · subst e
      simp only [woHp, Nat.beq_refl, look_cons, look_woHp]
      split <;> simp_all
    · simp only [woHp, beq_no e, look_cons, look_woHp]
      split <;> split <;> simp_all

theorem look_woTm (d n : Nat) : ∀ r : Tm, look (woTm d r) n = (look r n).map (V.wo d)
  | [] => by simp [woTm, look]
  | (k, x) :: r => by simp only [woTm, look_cons, look_woTm]; split <;> simp_all

theorem Ef.look_hp (d : Nat) (hp : Hp) (e : Ef) : look (e.hp d hp) = e.lk d (look hp) := by
  funext n
  cases e with
  | non => rfl
  | add o => simp only [Ef.hp, Ef.lk, look_cons, look_woHp]; split <;> simp_all
  | set m o => simp only [Ef.hp, Ef.lk, look_cons, look_drop]; split <;> simp_all
  | mov m o => simp only [Ef.hp, Ef.lk, look_cons, look_woHp, look_drop]; by_cases e1 : n = d <;> by_cases e2 : n = m <;> simp [e1, e2]
  | del m => simp only [Ef.hp, Ef.lk, look_drop]

/-- An effect as the world has it. -/
def FxOk (s : Nat → Option Loc) (I : Nat → Prop) (w : World) (h : Lk) (d : Nat) : Ef → (Nat → Option Loc) → World → Prop
  | .non, s', w' => s' = s ∧ w' = w
  | .add o, s', w' => ∃ L, s' = upd s d L ∧ w.grownBy w' none ∧ w.heap.size ≤ L.b ∧ Own s' I w' L o
  | .set m o, s', w' => ∃ L, s' = s ∧ s m = some L ∧ h m ≠ none ∧ w.grownBy w' (some L.b) ∧ Own s I w' L o
  | .mov m o, s', w' => ∃ L L', s' = upd s d L' ∧ s m = some L ∧ h m ≠ none ∧ w.grownBy w' (some L.b) ∧ (L'.b = L.b ∨ w.heap.size ≤ L'.b) ∧ Own s' I w' L' o
  | .del _, _, _ => False

section
variable {s s' : Nat → Option Loc} {I : Nat → Prop} {w w' : World} {h : Lk} {d : Nat} {e : Ef}

/-- The blocks that an effect may write. -/
def Ef.wr (s : Nat → Option Loc) : Ef → Nat → Prop
  | .set m _, b | .mov m _, b => ∃ L, s m = some L ∧ L.b = b
  | _, _ => False

theorem FxOk.keep (r : Rep s I w h) (f : FxOk s I w h d e s' w') : w'.os = w.os ∧ w'.tape = w.tape ∧ w'.output = w.output ∧ w.heap.size ≤ w'.heap.size ∧
    (∀ b, b < w.heap.size → ¬ e.wr s b → w'.heap[b]? = w.heap[b]?) ∧ (∀ b, I b → w'.heap[b]? = w.heap[b]?) := by
  have key : ∀ row : Option Nat, w.grownBy w' row → (∀ b, row = some b → ¬ I b ∧ e.wr s b) →
      w'.os = w.os ∧ w'.tape = w.tape ∧ w'.output = w.output ∧ w.heap.size ≤ w'.heap.size ∧ (∀ b, b < w.heap.size → ¬ e.wr s b → w'.heap[b]? = w.heap[b]?) ∧ (∀ b, I b → w'.heap[b]? = w.heap[b]?) := by
    intro row g hr
    refine ⟨g.os, g.tape, g.output, g.size, fun b hb hn => g.block b hb fun e' => hn (hr b e'.symm).2, fun b hb => g.block b (r.old b hb) fun e' => (hr b e'.symm).1 hb⟩
  have ni : ∀ m L, h m ≠ none → s m = some L → ¬ I L.b := by
    intro m L hm hL
    cases ho : h m with
    | none => exact (hm ho).elim
    | some o => exact (r.own m o L ho hL).2
  cases e with
  | non => obtain ⟨rfl, rfl⟩ := f; exact ⟨rfl, rfl, rfl, Nat.le_refl _, fun _ _ _ => rfl, fun _ _ => rfl⟩
  | add o => obtain ⟨L, -, g, -⟩ := f; exact key none g (fun b hb => by cases hb)
  | set m o => obtain ⟨L, -, hL, hm, g, -⟩ := f; exact key _ g (fun b hb => by cases hb; exact ⟨ni m L hm hL, L, hL, rfl⟩)
  | mov m o => obtain ⟨L, L', -, hL, hm, g, -⟩ := f; exact key _ g (fun b hb => by cases hb; exact ⟨ni m L hm hL, L, hL, rfl⟩)
  | del m => exact f.elim

theorem FxOk.names (f : FxOk s I w h d e s' w') : ∀ n, n ≠ d → s' n = s n := by
  intro n hn
  cases e with
  | non => obtain ⟨rfl, rfl⟩ := f; rfl
  | add o => obtain ⟨L, rfl, -⟩ := f; exact upd_ne hn
  | set m o => obtain ⟨L, rfl, -⟩ := f; rfl
  | mov m o => obtain ⟨L, L', rfl, -⟩ := f; exact upd_ne hn
  | del m => exact f.elim

theorem FxOk.rep (r : Rep s I w h) (f : FxOk s I w h d e s' w') : Rep s' I w' (e.lk d h) := by
  have kp := f.keep r
  obtain ⟨-, -, -, hsz, hbl, hI⟩ := kp
  have hold : ∀ b, I b → b < w'.heap.size := fun b hb => Nat.lt_of_lt_of_le (r.old b hb) hsz
  have hnm := f.names
  cases e with
  | del m => exact f.elim
  | non => obtain ⟨rfl, rfl⟩ := f; exact r
  | add o =>
    obtain ⟨L, rfl, g, hL, ho⟩ := f
    refine ⟨fun n o' M hn hM => ?_, fun n m A B hn hm hA hB hab => ?_, hold⟩
    · simp only [Ef.lk] at hn
      split at hn
      · rename_i e; subst e; cases hn
        rw [upd_self] at hM; cases hM
        exact ⟨ho, fun hI' => by have := r.old _ hI'; omega⟩
      · rename_i e
        obtain ⟨o1, h1, rfl⟩ := Option.map_eq_some_iff.1 hn
        rw [upd_ne e] at hM
        obtain ⟨a, b⟩ := r.own n o1 M h1 hM
        exact ⟨a.wo (fun _ h => h) hI (hbl _ (r.lt h1 hM) (fun x => x)) hnm, b⟩
    · simp only [Ef.lk] at hn hm
      by_cases e1 : n = d
      · by_cases e2 : m = d
        · exact e1.trans e2.symm
        · rw [if_neg e2] at hm; rw [upd_ne e2] at hB; subst e1; rw [upd_self] at hA; cases hA
          cases hq : h m with
          | none => simp [hq] at hm
          | some q => have := r.lt hq hB; omega
      · by_cases e2 : m = d
        · rw [if_neg e1] at hn; rw [upd_ne e1] at hA; subst e2; rw [upd_self] at hB; cases hB
          cases hq : h n with
          | none => simp [hq] at hn
          | some q => have := r.lt hq hA; omega
        · rw [if_neg e1] at hn; rw [if_neg e2] at hm; rw [upd_ne e1] at hA; rw [upd_ne e2] at hB
          exact r.inj n m A B (by intro e; simp [e] at hn) (by intro e; simp [e] at hm) hA hB hab
  | set m o =>
    obtain ⟨L, rfl, hL, hm, g, ho⟩ := f
    refine ⟨fun n o' M hn hM => ?_, fun n k A B hn hk hA hB hab => ?_, hold⟩
    · simp only [Ef.lk] at hn
      split at hn
      · rename_i e; subst e; cases hn
        rw [hL] at hM; cases hM
        cases hq : h n with
        | none => exact (hm hq).elim
        | some q => exact ⟨ho, (r.own n q L hq hL).2⟩
      · rename_i e
        obtain ⟨a, b⟩ := r.own n o' M hn hM
        refine ⟨a.mono (fun _ h => h) hI (hbl _ (r.lt hn hM) ?_) (fun _ _ h => h), b⟩
        rintro ⟨L', hL', hb⟩
        exact e (r.inj n m M L' (by simp [hn]) hm hM hL' hb.symm)
    · simp only [Ef.lk] at hn hk
      exact r.inj n k A B (by split at hn <;> simp_all) (by split at hk <;> simp_all) hA hB hab
  | mov m o =>
    obtain ⟨L, L', rfl, hL, hm, g, hL', ho⟩ := f
    have hLo : ∃ q, h m = some q := by cases hq : h m with | none => exact (hm hq).elim | some q => exact ⟨q, rfl⟩
    obtain ⟨q, hq⟩ := hLo
    have nI : ¬ I L'.b := by
      intro hi
      rcases hL' with e | e
      · exact (r.own m q L hq hL).2 (e ▸ hi)
      · have := r.old _ hi; omega
    have other : ∀ n M, n ≠ m → h n ≠ none → s n = some M → M.b ≠ L'.b := by
      intro n M hne hn hM e
      rcases hL' with e' | e'
      · exact hne (r.inj n m M L hn hm hM hL (e.trans e'))
      · cases hq' : h n with
        | none => exact hn hq'
        | some q' => have := r.lt hq' hM; omega
    refine ⟨fun n o' M hn hM => ?_, fun n k A B hn hk hA hB hab => ?_, hold⟩
    · simp only [Ef.lk] at hn
      split at hn
      · rename_i e; subst e; cases hn
        rw [upd_self] at hM; cases hM
        exact ⟨ho, nI⟩
      · rename_i e
        split at hn
        · cases hn
        · rename_i e'
          obtain ⟨o1, h1, rfl⟩ := Option.map_eq_some_iff.1 hn
          rw [upd_ne e] at hM
          obtain ⟨a, b⟩ := r.own n o1 M h1 hM
          refine ⟨a.wo (fun _ h => h) hI (hbl _ (r.lt h1 hM) ?_) hnm, b⟩
          rintro ⟨L2, hL2, hb⟩
          exact e' (r.inj n m M L2 (by simp [h1]) hm hM hL2 hb.symm)
    · simp only [Ef.lk] at hn hk
      have red : ∀ x, (if x = d then some o else if x = m then none else (h x).map (Ob.wo d)) ≠ none → x ≠ d → x ≠ m ∧ h x ≠ none := by
        intro x hx hxd
        rw [if_neg hxd] at hx
        by_cases hxm : x = m
        · rw [if_pos hxm] at hx; exact (hx rfl).elim
        · rw [if_neg hxm] at hx; exact ⟨hxm, fun e => by simp [e] at hx⟩
      by_cases e1 : n = d
      · by_cases e2 : k = d
        · exact e1.trans e2.symm
        · obtain ⟨a, b⟩ := red k hk e2
          rw [upd_ne e2] at hB; subst e1; rw [upd_self] at hA; cases hA
          exact (other k B a b hB hab.symm).elim
      · by_cases e2 : k = d
        · obtain ⟨a, b⟩ := red n hn e1
          rw [upd_ne e1] at hA; subst e2; rw [upd_self] at hB; cases hB
          exact (other n A a b hA hab).elim
        · obtain ⟨a, b⟩ := red n hn e1
          obtain ⟨a', b'⟩ := red k hk e2
          rw [upd_ne e1] at hA; rw [upd_ne e2] at hB
          exact r.inj n k A B b b' hA hB hab

end

end Go.Eng
