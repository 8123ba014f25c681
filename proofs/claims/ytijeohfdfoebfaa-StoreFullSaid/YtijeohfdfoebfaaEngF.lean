/-
An engine for proofs about Go functions, part F: what the engine owes of a piece of code holds of the program's runs; a function's contract.
-/
import Derived.Test.YtijeohfdfoebfaaEngE
set_option linter.all false
namespace Go.Eng
open Go.RowKit
set_option linter.unusedSimpArgs false

/-- Rows of closed values. -/
def RelTs (I : Nat → Prop) (w : World) (xs : List T) (us : Array Value) : Prop :=
  us.size = xs.length ∧ ∀ (i : Nat) (x : T), xs[i]? = some x → ∃ u, us[i]? = some u ∧ RelT I w x u

def Runs (P : Program) (f : FuncId) : Prop := ∃ fn, P.funcs[f]? = some fn ∧ (fn.name == "runtime.NumGoroutine") = false ∧ fn.body.isNone = false

/-- The contract of a function of closed values: it returns, and nothing that was there has turned. -/
def Pure (P : Program) (f : FuncId) (args : List T) (r : T) : Prop :=
  Runs P f ∧ ∀ (I : Nat → Prop) (w : World) (us : Array Value), (∀ b, I b → b < w.heap.size) → RelTs I w args us →
    Calls P f us w fun e w' => ∃ v, e = .returned v ∧ Below w.heap.size w w' ∧ RelT (fun b => I b ∨ (w.heap.size ≤ b ∧ b < w'.heap.size)) w' r v

theorem RelT.le {I : Nat → Prop} {w : World} {x y : T} {v : Value} (h : RelT I w x v) (l : leT x y) : RelT I w y v := by
  induction l generalizing v with
  | refl x => exact h
  | nil z => cases h; exact .lst0 z none 0 (fun _ => rfl)
  | agg cs ds hl _ ih =>
    cases h with
    | agg _ us vs hs hc ho hr =>
      have old : ∀ (i : Nat) (y : T), ds[i]? = some y → ∃ x, cs[i]? = some x := fun i y hy => ⟨_, List.getElem?_eq_getElem (by rw [hl]; exact (List.getElem?_eq_some_iff.1 hy).1)⟩
      exact .agg ds us vs (hs.trans hl) (fun i y hy => let ⟨x, hx⟩ := old i y hy; hc i x hx) (fun i y hy => let ⟨x, hx⟩ := old i y hy; ho i x hx) (fun i y hy => let ⟨x, hx⟩ := old i y hy; ih i x y hx hy (hr i x hx))
  | tup cs ds hl _ ih =>
    cases h with
    | tup _ us vs hs hc hr =>
      have old : ∀ (i : Nat) (y : T), ds[i]? = some y → ∃ x, cs[i]? = some x := fun i y hy => ⟨_, List.getElem?_eq_getElem (by rw [hl]; exact (List.getElem?_eq_some_iff.1 hy).1)⟩
      exact .tup ds us vs (hs.trans hl) (fun i y hy => let ⟨x, hx⟩ := old i y hy; hc i x hx) (fun i y hy => let ⟨x, hx⟩ := old i y hy; ih i x y hx hy (hr i x hx))
  | lst z es fs hl hz _ ih =>
    cases h with
    | lst0 _ a cap ha => cases fs with | nil => exact .lst0 z a cap ha | cons f r => simp at hl
    | lst _ _ b o cap us hl' hm hI hzz hc ho hr =>
      have oldE : ∀ (i : Nat) (f : List T), fs[i]? = some f → ∃ e, es[i]? = some e := fun i f hf => ⟨_, List.getElem?_eq_getElem (by rw [hl]; exact (List.getElem?_eq_some_iff.1 hf).1)⟩
      have old : ∀ (i : Nat) (f : List T) (j : Nat) (y : T), fs[i]? = some f → f[j]? = some y → ∃ e x, es[i]? = some e ∧ e[j]? = some x := by
        intro i f j y hf hy
        obtain ⟨e, he⟩ := oldE i f hf
        exact ⟨e, _, he, List.getElem?_eq_getElem (by rw [hz i e f he hf]; exact (List.getElem?_eq_some_iff.1 hy).1)⟩
      rw [hl]
      exact .lst z fs b o cap us (by rw [← hl]; exact hl') hm hI (fun i f hf => let ⟨e, he⟩ := oldE i f hf; by rw [← hz i e f he hf]; exact hzz i e he)
        (fun i f j y hf hy => let ⟨e, x, he, hx⟩ := old i f j y hf hy; hc i e j x he hx) (fun i f j y hf hy => let ⟨e, x, he, hx⟩ := old i f j y hf hy; ho i e j x he hx)
        (fun i f j y hf hy => let ⟨e, x, he, hx⟩ := old i f j y hf hy; ih i j e f x y he hf hx hy (hr i e j x he hx))

theorem RelV.le {s : Nat → Option Loc} {I : Nat → Prop} {w : World} {x y : V} {v : Value} (h : RelV s I w x v) (l : leV x y) : RelV s I w y v := by
  cases l with
  | refl => exact h
  | und => exact .und _
  | t a b hab => exact .t _ _ (h.inv_t.le hab)

theorem Own.le {s : Nat → Option Loc} {I : Nat → Prop} {w : World} {L : Loc} {o o' : Ob} (h : Own s I w L o) (l : leO o o') : Own s I w L o' := by
  cases l with
  | refl => exact h
  | box cs ds hl hh =>
    obtain ⟨C, el, h1, h2, h3, h4, h5⟩ := h
    refine ⟨C, el, h1, h2, h3.trans hl, h4.trans hl, fun i v hv => ?_⟩
    obtain ⟨x, hx⟩ : ∃ x, cs[i]? = some x := ⟨_, List.getElem?_eq_getElem (by rw [hl]; exact (List.getElem?_eq_some_iff.1 hv).1)⟩
    obtain ⟨u, a, b, c⟩ := h5 i x hx
    exact ⟨u, a, b.le (hh i x v hx hv), c⟩
  | row ty z es fs hl hz hh =>
    obtain ⟨C, h1, h2, h3, h4, h5, h6, h7⟩ := h
    have oldE : ∀ (i : Nat) (f : List T), fs[i]? = some f → ∃ e, es[i]? = some e := fun i f hf => ⟨_, List.getElem?_eq_getElem (by rw [hl]; exact (List.getElem?_eq_some_iff.1 hf).1)⟩
    refine ⟨C, h1, h2, h3, h4, by rw [← hl]; exact h5, fun i f hf => ?_, fun i f j y hf hy => ?_⟩
    · obtain ⟨e, he⟩ := oldE i f hf
      rw [← hz i e f he hf]; exact h6 i e he
    · obtain ⟨e, he⟩ := oldE i f hf
      have hx : e[j]? = some _ := List.getElem?_eq_getElem (by rw [hz i e f he hf]; exact (List.getElem?_eq_some_iff.1 hy).1)
      obtain ⟨u, a, b, c⟩ := h7 i e j _ he hx
      exact ⟨u, a, b.le (hh i j e f _ y he hf hx hy), c⟩

theorem renL_get (p : Nat → Nat) : ∀ (cs : List V) (i : Nat), (V.renL p cs)[i]? = (cs[i]?).map (V.ren p)
  | [], i => by simp [V.renL]
  | v :: r, 0 => by simp [V.renL]
  | v :: r, i + 1 => by simp [V.renL, renL_get p r i]

theorem renL_length (p : Nat → Nat) : ∀ (cs : List V), (V.renL p cs).length = cs.length
  | [] => rfl
  | v :: r => by simp [V.renL, renL_length p r]

theorem relV_ren {s : Nat → Option Loc} {I : Nat → Prop} {w : World} {p : Nat → Nat} {y : V} {v : Value} (h : RelV s I w y v) : ∀ x, y = x.ren p → RelV (fun n => s (p n)) I w x v := by
  induction h with
  | und v => intro x hx; cases x <;> simp [V.ren] at hx; exact .und v
  | t a v h => intro x hx; cases x <;> simp [V.ren] at hx; subst hx; exact .t _ _ h
  | ptr n i j L h => intro x hx; cases x <;> simp [V.ren] at hx; obtain ⟨rfl, rfl, rfl⟩ := hx; exact .ptr _ _ _ L h
  | slc n i len L o cap h hl hm ho h0 ht =>
    intro x hx; cases x <;> simp [V.ren] at hx; obtain ⟨rfl, rfl, rfl, rfl⟩ := hx
    exact .slc _ _ _ L o cap h hl hm ho h0 ht
  | fnv f cs us vs hs hc hr ih =>
    intro x hx; cases x <;> simp [V.ren] at hx; obtain ⟨rfl, rfl⟩ := hx
    rename_i ds
    have g : ∀ (i : Nat) (d : V), ds[i]? = some d → (V.renL p ds)[i]? = some (d.ren p) := fun i d hd => by rw [renL_get, hd]; rfl
    exact .fnv _ ds us vs (by rw [hs, renL_length]) (fun i d hd => hc i _ (g i d hd)) (fun i d hd => ih i _ (g i d hd) d rfl)
  | agg cs us vs hs hc ho hr ih =>
    intro x hx; cases x <;> simp [V.ren] at hx; subst hx
    rename_i ds
    have g : ∀ (i : Nat) (d : V), ds[i]? = some d → (V.renL p ds)[i]? = some (d.ren p) := fun i d hd => by rw [renL_get, hd]; rfl
    exact .agg ds us vs (by rw [hs, renL_length]) (fun i d hd => hc i _ (g i d hd)) (fun i d hd => ho i _ (g i d hd)) (fun i d hd => ih i _ (g i d hd) d rfl)
  | tup cs us vs hs hc hr ih =>
    intro x hx; cases x <;> simp [V.ren] at hx; subst hx
    rename_i ds
    have g : ∀ (i : Nat) (d : V), ds[i]? = some d → (V.renL p ds)[i]? = some (d.ren p) := fun i d hd => by rw [renL_get, hd]; rfl
    exact .tup ds us vs (by rw [hs, renL_length]) (fun i d hd => hc i _ (g i d hd)) (fun i d hd => ih i _ (g i d hd) d rfl)

theorem own_ren {s : Nat → Option Loc} {I : Nat → Prop} {w : World} {p : Nat → Nat} {L : Loc} {o : Ob} (h : Own s I w L (o.ren p)) : Own (fun n => s (p n)) I w L o := by
  cases o with
  | box cs =>
    obtain ⟨C, el, h1, h2, h3, h4, h5⟩ := h
    rw [renL_length] at h3 h4
    exact ⟨C, el, h1, h2, h3, h4, fun i v hv => let ⟨u, a, b, c⟩ := h5 i (v.ren p) (by rw [renL_get, hv]; rfl); ⟨u, a, relV_ren b v rfl, c⟩⟩
  | row ty z es => exact h

/-- Slots. -/
def TmOk (s : Nat → Option Loc) (I : Nat → Prop) (w : World) (tm : Tm) (a : Act) : Prop :=
  ∀ t v, look tm t = some v → RelV s I w v (a.tmps.getD t undef)

/-- Where a function begins: the world, what it was given by name, and the blocks of that. -/
structure Base where
  w : World
  s : Nat → Option Loc
  B : Nat → Prop

/-- Blocks that the function may write: its own, and what it was given. -/
def Base.New (b : Base) (k : Nat) : Prop := b.w.heap.size ≤ k ∨ b.B k

structure Kept (b : Base) (w : World) : Prop where
  os : w.os = b.w.os
  tape : w.tape = b.w.tape
  output : w.output = b.w.output
  size : b.w.heap.size ≤ w.heap.size
  block : ∀ k, k < b.w.heap.size → ¬ b.B k → w.heap[k]? = b.w.heap[k]?

theorem Kept.step {b : Base} {w w' : World} (h : Kept b w) (h1 : w'.os = w.os) (h2 : w'.tape = w.tape) (h3 : w'.output = w.output) (h4 : w.heap.size ≤ w'.heap.size) (h5 : ∀ k, k < w.heap.size → ¬ b.New k → w'.heap[k]? = w.heap[k]?) : Kept b w' :=
  ⟨h1.trans h.os, h2.trans h.tape, h3.trans h.output, Nat.le_trans h.size h4, fun k hk hb => (h5 k (Nat.lt_of_lt_of_le hk h.size) (fun q => q.elim (fun q => by omega) hb)).trans (h.block k hk hb)⟩

theorem Kept.below {b : Base} {w w' : World} (h : Kept b w) (k : Below w.heap.size w w') : Kept b w' :=
  h.step k.os k.tape k.output k.size (fun i hi _ => k.block i hi)

/-- A state of the engine stands for slots and world; w0: where the function began. -/
def StR (w0 : Base) (I0 : Nat → Prop) (N : Nat) (st : St) (a : Act) (w : World) : Prop :=
  ∃ s I, a.tmps.size = N ∧ a.defers = [] ∧ TmOk s I w st.tm a ∧ Rep s I w (look st.hp) ∧ Kept w0 w ∧
    (∀ n L, look st.hp n ≠ none → s n = some L → w0.New L.b) ∧ (∀ b, I0 b → I b) ∧ (∀ b, I b → I0 b ∨ w0.New b) ∧ ∀ n, far ≤ n → s n = w0.s n

theorem look_nodup {α : Type} : ∀ {l : List (Nat × α)} {n : Nat} {x : α}, look l n = some x → (n, x) ∈ l
  | [], n, x, h => by simp [look] at h
  | (k, y) :: r, n, x, h => by
    rw [look_cons] at h
    split at h
    · rename_i e; subst e; cases h; exact List.mem_cons_self
    · exact List.mem_cons_of_mem _ (look_nodup h)

/-- The blocks of named objects. -/
def Owned (s : Nat → Option Loc) (h : Lk) (b : Nat) : Prop := ∃ n L, h n ≠ none ∧ s n = some L ∧ L.b = b

section
variable {s : Nat → Option Loc} {I : Nat → Prop} {w : World} {h : Lk}

theorem relT_grow {J : Nat → Prop} {x : T} {u : Value} (r : RelT I w x u) : RelT (fun b => I b ∨ J b) w x u := r.mono (fun _ h => .inl h) (fun _ _ => rfl)

theorem clo_rel (r : Rep s I w h) : ∀ (k : Nat), (∀ (v : V) (x : T) (u : Value), clo k h v = some x → RelV s I w v u → RelT (fun b => I b ∨ Owned s h b) w x u) ∧
    (∀ (vs : List V) (xs : List T), cloL k h vs = some xs → xs.length = vs.length ∧ ∀ (i : Nat) (x : T), xs[i]? = some x → ∃ v, vs[i]? = some v ∧ ∀ u, RelV s I w v u → RelT (fun b => I b ∨ Owned s h b) w x u) := by
  intro k
  induction k with
  | zero => exact ⟨fun v x u hc => by simp [clo] at hc, fun vs xs hc => by cases vs <;> simp [cloL] at hc⟩
  | succ k ih =>
    obtain ⟨ih1, ih2⟩ := ih
    refine ⟨fun v x u hc hv => ?_, fun vs xs hc => ?_⟩
    · cases hv with
      | und => simp [clo] at hc
      | t y u hy => simp [clo] at hc; subst hc; exact relT_grow hy
      | ptr n i j L hL =>
        simp only [clo] at hc
        cases hh : h n with
        | none => simp [hh] at hc
        | some ob =>
          rw [hh] at hc
          have hO : Owned s h L.b := ⟨n, L, by simp [hh], hL, rfl⟩
          obtain ⟨ow, -⟩ := r.own n ob L hh hL
          cases ob with
          | box cs =>
            obtain ⟨C, el, h1, h2, h3, h4, h5⟩ := ow
            cases i with
            | succ i => simp at hc
            | zero =>
              simp only [Option.map_eq_some_iff] at hc
              obtain ⟨ts, hts, rfl⟩ := hc
              obtain ⟨q1, q2⟩ := ih2 cs ts hts
              have key : ∀ (j : Nat) (x : T), ts[j]? = some x → w.cell? ⟨L.b, 0 + 0 * ts.length + j, none⟩ = some (C.getD j undef) ∧ (C.getD j undef).oneCell' = true ∧ RelT (fun b => I b ∨ Owned s h b) w x (C.getD j undef) := by
                intro j x hx
                obtain ⟨v, hv, hr⟩ := q2 j x hx
                obtain ⟨u, a, b, c⟩ := h5 j v hv
                have e : C.getD j undef = u := by rw [Array.getD_eq_getD_getElem?, a]; rfl
                rw [e]
                exact ⟨by simp [World.cell?, h1, a], c, hr u b⟩
              have one : ∀ (i : Nat) (e : List T), ([ts] : List (List T))[i]? = some e → i = 0 ∧ e = ts := by
                intro i e he; cases i with
                | zero => simp at he; exact ⟨rfl, he.symm⟩
                | succ i => simp at he
              have := RelT.ref (I := fun b => I b ∨ Owned s h b) (w := w) ts.length [ts] L.b 0 0 j (fun _ j => C.getD j undef) (.inr hO) (fun i e he => by rw [(one i e he).2])
                (fun i e j x he hx => by obtain ⟨rfl, rfl⟩ := one i e he; exact (key j x hx).1) (fun i e j x he hx => by obtain ⟨rfl, rfl⟩ := one i e he; exact (key j x hx).2.1) (fun i e j x he hx => by obtain ⟨rfl, rfl⟩ := one i e he; exact (key j x hx).2.2)
              simpa using this
          | row ty z es =>
            obtain ⟨C, h1, h2, h3, h4, h5, h6, h7⟩ := ow
            simp at hc
            subst hc
            have key : ∀ (i : Nat) (e : List T) (j : Nat) (x : T), es[i]? = some e → e[j]? = some x → w.cell? ⟨L.b, 0 + i * z + j, none⟩ = some (C.getD (i * z + j) undef) ∧ (C.getD (i * z + j) undef).oneCell' = true ∧ RelT (fun b => I b ∨ Owned s h b) w x (C.getD (i * z + j) undef) := by
              intro i e j x he hx
              obtain ⟨u, a, b, c⟩ := h7 i e j x he hx
              have e' : C.getD (i * z + j) undef = u := by rw [Array.getD_eq_getD_getElem?, a]; rfl
              rw [e']
              exact ⟨by simp [World.cell?, h1, a], c, relT_grow b⟩
            have := RelT.ref (I := fun b => I b ∨ Owned s h b) (w := w) z es L.b 0 i j (fun i j => C.getD (i * z + j) undef) (.inr hO) h6 (fun i e j x he hx => (key i e j x he hx).1) (fun i e j x he hx => (key i e j x he hx).2.1) (fun i e j x he hx => (key i e j x he hx).2.2)
            rw [h3]
            simpa using this
      | slc n i len L o cap hL hl hm ho h0 ht =>
        simp only [clo] at hc
        cases hh : h n with
        | none => simp [hh] at hc
        | some ob =>
          rw [hh] at hc
          have hO : Owned s h L.b := ⟨n, L, by simp [hh], hL, rfl⟩
          obtain ⟨ow, -⟩ := r.own n ob L hh hL
          cases ob with
          | box cs => simp at hc
          | row ty z es =>
            obtain ⟨C, h1, h2, h3, h4, h5, h6, h7⟩ := ow
            simp only at hc
            split at hc
            · rename_i hok
              simp only [Bool.and_eq_true, decide_eq_true_eq] at hok
              obtain ⟨-, hle⟩ := hok
              cases hc
              have hlen := cut_length es i len hle
              by_cases hn : len = 0
              · subst hn
                have : cut es i 0 = [] := List.eq_nil_of_length_eq_zero hlen
                rw [this]; exact .lst0 _ _ _ (fun e => by cases e)
              · have hcap : cap ≠ 0 := by omega
                have ho' := ho.resolve_right hcap
                have g : ∀ (q : Nat) (e : List T), (cut es i len)[q]? = some e → es[i + q]? = some e := fun q e he => (cut_get _ _ _ _ _ he).2
                have key : ∀ (q : Nat) (e : List T) (j : Nat) (x : T), (cut es i len)[q]? = some e → e[j]? = some x → w.cell? ⟨L.b, o + q * z + j, none⟩ = some (C.getD ((i + q) * z + j) undef) ∧ (C.getD ((i + q) * z + j) undef).oneCell' = true ∧ RelT (fun b => I b ∨ Owned s h b) w x (C.getD ((i + q) * z + j) undef) := by
                  intro q e j x he hx
                  obtain ⟨u, a, b, c⟩ := h7 _ e j x (g q e he) hx
                  have e' : C.getD ((i + q) * z + j) undef = u := by rw [Array.getD_eq_getD_getElem?, a]; rfl
                  rw [e', ho', h3, ← Nat.add_mul]
                  exact ⟨by simp [World.cell?, h1, a], c, relT_grow b⟩
                have := RelT.lst (I := fun b => I b ∨ Owned s h b) (w := w) z (cut es i len) L.b o cap (fun q j => C.getD ((i + q) * z + j) undef) (by rw [hlen]; exact hl) hm (.inr hO) (fun q e he => h6 _ e (g q e he))
                  (fun q e j x he hx => (key q e j x he hx).1) (fun q e j x he hx => (key q e j x he hx).2.1) (fun q e j x he hx => (key q e j x he hx).2.2)
                rw [hlen] at this
                exact this
            · cases hc
      | fnv f cs us vs hs hcc hr =>
        simp only [clo, Option.map_eq_some_iff] at hc
        obtain ⟨ts, hts, rfl⟩ := hc
        obtain ⟨q1, q2⟩ := ih2 cs ts hts
        exact .fn f ts us vs (by rw [hs, q1]) (fun i x hx => let ⟨v, hv, _⟩ := q2 i x hx; hcc i v hv) (fun i x hx => let ⟨v, hv, hh⟩ := q2 i x hx; hh _ (hr i v hv))
      | agg cs us vs hs hcc ho hr =>
        simp only [clo, Option.map_eq_some_iff] at hc
        obtain ⟨ts, hts, rfl⟩ := hc
        obtain ⟨q1, q2⟩ := ih2 cs ts hts
        exact .agg ts us vs (by rw [hs, q1]) (fun i x hx => let ⟨v, hv, _⟩ := q2 i x hx; hcc i v hv) (fun i x hx => let ⟨v, hv, _⟩ := q2 i x hx; ho i v hv) (fun i x hx => let ⟨v, hv, hh⟩ := q2 i x hx; hh _ (hr i v hv))
      | tup cs us vs hs hcc hr =>
        simp only [clo, Option.map_eq_some_iff] at hc
        obtain ⟨ts, hts, rfl⟩ := hc
        obtain ⟨q1, q2⟩ := ih2 cs ts hts
        exact .tup ts us vs (by rw [hs, q1]) (fun i x hx => let ⟨v, hv, _⟩ := q2 i x hx; hcc i v hv) (fun i x hx => let ⟨v, hv, hh⟩ := q2 i x hx; hh _ (hr i v hv))
    · cases vs with
      | nil => simp [cloL] at hc; subst hc; simp
      | cons v vr =>
        simp only [cloL] at hc
        split at hc
        · rename_i x xr h1 h2
          cases hc
          obtain ⟨q1, q2⟩ := ih2 vr xr h2
          refine ⟨by simp [q1], fun i y hy => ?_⟩
          cases i with
          | zero => simp at hy; subst hy; exact ⟨v, rfl, fun u hu => ih1 v x u h1 hu⟩
          | succ i => simpa using q2 i y (by simpa using hy)
        · cases hc

end

theorem contains_iff {l : List Nat} {n : Nat} : l.contains n = true ↔ n ∈ l := by simp

theorem left_some {p : Nat → Nat} {st st' : St} {n : Nat} {o : Ob} (h : left p st st' n = some o) : look st.hp n = some o ∧ n ∉ st'.hp.map fun x => p x.1 := by
  unfold left at h
  split at h
  · cases h
  · rename_i hc
    exact ⟨h, fun hm => by rw [contains_iff.2 hm] at hc; cases hc⟩

theorem leCs_get {p : Nat → Nat} {h : Lk} : ∀ {cs ds : List V}, leCs p h cs ds → cs.length = ds.length ∧ ∀ (i : Nat) (v u : V), cs[i]? = some v → ds[i]? = some u → leC p h v u
  | [], [], _ => ⟨rfl, fun i v u hv => by simp at hv⟩
  | v :: r, u :: s, q => by
    obtain ⟨a, b⟩ := leCs_get q.2
    refine ⟨by simp [a], fun i x y hx hy => ?_⟩
    cases i with
    | zero => simp at hx hy; subst hx hy; exact q.1
    | succ i => exact b i x y (by simpa using hx) (by simpa using hy)
  | [], _ :: _, q => q.elim
  | _ :: _, [], q => q.elim

theorem cell_le {s : Nat → Option Loc} {I : Nat → Prop} {w : World} {p : Nat → Nat} {h : Lk} (hL : Rep s I w h) {v v' : V} {u : Value} (hg : RelV s I w v u) (q : leC p h v v') : RelV (fun n => s (p n)) (fun b => I b ∨ Owned s h b) w v' u := by
  rcases q with q | ⟨x, y, rfl, q, hle⟩
  · exact (relV_ren (RelV.le hg q) v' rfl).mono (fun _ h => .inl h) (fun _ _ => rfl)
  · exact .t _ _ (((clo_rel hL 40).1 _ x _ q hg).le hle)

theorem own_le {s : Nat → Option Loc} {I : Nat → Prop} {w : World} {p : Nat → Nat} {h : Lk} (hL : Rep s I w h) {L : Loc} {o o' : Ob} (a : Own s I w L o) (q : leOC p h o o') : Own (fun n => s (p n)) (fun b => I b ∨ Owned s h b) w L o' := by
  cases o with
  | box cs =>
    cases o' with
    | box ds =>
      obtain ⟨e, g⟩ := leCs_get q
      obtain ⟨C, el, h1, h2, h3, h4, h5⟩ := a
      refine ⟨C, el, h1, h2, h3.trans e, h4.trans e, fun i v hv => ?_⟩
      obtain ⟨x, hx⟩ : ∃ x, cs[i]? = some x := ⟨_, List.getElem?_eq_getElem (by rw [e]; exact (List.getElem?_eq_some_iff.1 hv).1)⟩
      obtain ⟨u, a, b, c⟩ := h5 i x hx
      exact ⟨u, a, cell_le hL b (g i x v hx hv), c⟩
    | row ty z es => exact (own_ren (a.le q)).mono (fun _ h => .inl h) (fun _ _ => rfl) rfl (fun _ _ h => h)
  | row ty z es => exact (own_ren (a.le (by cases o' <;> exact q))).mono (fun _ h => .inl h) (fun _ _ => rfl) rfl (fun _ _ h => h)

theorem StR.le {w0 : Base} {I0 : Nat → Prop} {N : Nat} {st st' : St} {a : Act} {w : World} {p : Nat → Nat} (h : StR w0 I0 N st a w) (l : leS p st st') : StR w0 I0 N st' a w := by
  obtain ⟨s, I, h1, h2, h3, h4, h5, h6, h7, h8, h9⟩ := h
  obtain ⟨l1, l2, l3, l4⟩ := l
  have hRL : Rep s I w (left p st st') := ⟨fun n o L hn hL => h4.own n o L (left_some hn).1 hL, fun n m L M hn hm hL hM e => by
    obtain ⟨o, ho⟩ := Option.ne_none_iff_exists'.1 hn
    obtain ⟨o', ho'⟩ := Option.ne_none_iff_exists'.1 hm
    exact h4.inj n m L M (by simp [(left_some ho).1]) (by simp [(left_some ho').1]) hL hM e, h4.old⟩
  refine ⟨fun n => s (p n), fun b => I b ∨ Owned s (left p st st') b, h1, h2, fun t v hv => ?_, ⟨fun n o L hn hL => ?_, fun n m L M hn hm hL hM e => ?_, ?_⟩, h5, fun n L hn hL => ?_, fun b hb => .inl (h7 b hb), ?_, fun n hn => by show s (p n) = _; rw [l4 n hn]; exact h9 n hn⟩
  · have := l1 (t, v) (look_nodup hv)
    simp only at this
    have hg : RelV s I w (get st.tm t) (a.tmps.getD t undef) := by
      unfold get
      cases hq : look st.tm t with
      | none => exact .und _
      | some q => exact h3 t q hq
    exact cell_le hRL hg this
  · obtain ⟨o0, ho0, hle⟩ := l2 (n, o) (look_nodup hn)
    obtain ⟨a1, a2⟩ := h4.own (p n) o0 L ho0 hL
    refine ⟨own_le hRL a1 hle, fun q => q.elim a2 ?_⟩
    rintro ⟨m, L', hm, hL', hb⟩
    obtain ⟨o', ho'⟩ := Option.ne_none_iff_exists'.1 hm
    have e := h4.inj m (p n) L' L (by simp [(left_some ho').1]) (by simp [ho0]) hL' hL hb
    exact (left_some ho').2 (by rw [e]; exact List.mem_map.2 ⟨(n, o), look_nodup hn, rfl⟩)
  · obtain ⟨o, ho⟩ := Option.ne_none_iff_exists'.1 hn
    obtain ⟨o', ho'⟩ := Option.ne_none_iff_exists'.1 hm
    obtain ⟨o0, ho0, -⟩ := l2 (n, o) (look_nodup ho)
    obtain ⟨o1, ho1, -⟩ := l2 (m, o') (look_nodup ho')
    have hpe := h4.inj (p n) (p m) L M (by simp [ho0]) (by simp [ho1]) hL hM e
    have m1 := look_nodup ho; have m2 := look_nodup ho'
    obtain ⟨i, hi⟩ := List.mem_iff_getElem?.1 m1
    obtain ⟨j, hj⟩ := List.mem_iff_getElem?.1 m2
    have e1 : (st'.hp.map fun x => p x.1)[i]? = some (p n) := by simp [hi]
    have e2 : (st'.hp.map fun x => p x.1)[j]? = some (p m) := by simp [hj]
    have hij : i = j := by
      have hi' := (List.getElem?_eq_some_iff.1 e1).1
      exact (List.getElem?_inj hi' l3).1 (by rw [e1, e2, hpe])
    subst hij
    rw [hi] at hj; cases hj; rfl
  · rintro b (q | ⟨n, L, hn, hL', rfl⟩)
    · exact h4.old b q
    · obtain ⟨o, ho⟩ := Option.ne_none_iff_exists'.1 hn
      exact h4.lt (left_some ho).1 hL'
  · obtain ⟨o, ho⟩ := Option.ne_none_iff_exists'.1 hn
    obtain ⟨o0, ho0, -⟩ := l2 (n, o) (look_nodup ho)
    exact h6 (p n) L (by simp [ho0]) hL
  · rintro b (q | ⟨n, L, hn, hL', rfl⟩)
    · exact h8 b q
    · obtain ⟨o, ho⟩ := Option.ne_none_iff_exists'.1 hn
      exact .inr (h6 n L (by simp [(left_some ho).1]) hL')

theorem RelV.ext {s s' : Nat → Option Loc} {I : Nat → Prop} {w : World} {x : V} {v : Value} (h : RelV s I w x v) (hs : ∀ n L, s n = some L → s' n = some L) : RelV s' I w x v := by
  induction h with
  | und v => exact .und v
  | t x v h => exact .t x v h
  | ptr n i j L h => exact .ptr n i j L (hs n L h)
  | slc n i len L o cap h hl hm ho h0 ht => exact .slc n i len L o cap (hs n L h) hl hm ho h0 ht
  | fnv f cs us vs hs hc hr ih => exact .fnv f cs us vs hs hc ih
  | agg cs us vs hs hc ho hr ih => exact .agg cs us vs hs hc ho ih
  | tup cs us vs hs hc hr ih => exact .tup cs us vs hs hc ih

section
variable {P : Program} {w0 : Base} {I0 : Nat → Prop} {N : Nat}

/-- A state, with what it stands for named. -/
structure StX (w0 : Base) (I0 : Nat → Prop) (N : Nat) (tm : Tm) (h : Lk) (s : Nat → Option Loc) (I : Nat → Prop) (a : Act) (w : World) : Prop where
  size : a.tmps.size = N
  defers : a.defers = []
  tm : TmOk s I w tm a
  rep : Rep s I w h
  below : Kept w0 w
  own : ∀ n L, h n ≠ none → s n = some L → w0.New L.b
  inc : ∀ b, I0 b → I b
  new : ∀ b, I b → I0 b ∨ w0.New b
  outer : ∀ n, far ≤ n → s n = w0.s n

theorem StX.wo {tm : Tm} {hp : Hp} {s : Nat → Option Loc} {I : Nat → Prop} {a : Act} {w : World} (n : Nat) (hn : n < far) (x : StX w0 I0 N tm (look hp) s I a w) : StX w0 I0 N (woTm n tm) (look (woHp n hp)) (fun m => if m = n then none else s m) I a w := by
  have hs : ∀ m, m ≠ n → (fun m => if m = n then none else s m) m = s m := fun m h => by simp [h]
  have sub : ∀ m L, (fun m => if m = n then none else s m) m = some L → m ≠ n ∧ s m = some L := fun m L h => by
    by_cases e : m = n
    · simp [e] at h
    · simp [e] at h; exact ⟨e, h⟩
  have dom : ∀ m, look (woHp n hp) m ≠ none → look hp m ≠ none := fun m h q => by
    rw [look_woHp] at h; split at h
    · exact h rfl
    · rw [q] at h; exact h rfl
  refine ⟨x.size, x.defers, fun t v hv => ?_, ⟨fun m o L hm hL => ?_, fun m k L M hm hk hL hM => x.rep.inj m k L M (dom m hm) (dom k hk) (sub m L hL).2 (sub k M hM).2, x.rep.old⟩, x.below, fun m L hm hL => x.own m L (dom m hm) (sub m L hL).2, x.inc, x.new, fun m hm => (hs m (by omega)).trans (x.outer m hm)⟩
  · rw [look_woTm] at hv
    obtain ⟨y, hy, rfl⟩ := Option.map_eq_some_iff.1 hv
    exact (x.tm t y hy).wo hs
  · obtain ⟨hmn, hL'⟩ := sub m L hL
    rw [look_woHp, if_neg hmn] at hm
    obtain ⟨y, hy, rfl⟩ := Option.map_eq_some_iff.1 hm
    obtain ⟨p, q⟩ := x.rep.own m y L hy hL'
    exact ⟨p.wo (fun _ h => h) (fun _ _ => rfl) rfl hs, q⟩

theorem clean_ok {a : Act} {w : World} {I : Nat → Prop} : ∀ (ns : List Nat) (st : St) (s : Nat → Option Loc) (D : Nat → Prop), (∀ n ∈ ns, n < far) → StX w0 I0 N st.tm (look st.hp) s I a w → (∀ d, D d → s d = none ∧ look st.hp d = none) →
    ∃ s', StX w0 I0 N (clean ns st).tm (look (clean ns st).hp) s' I a w ∧ ∀ d, (D d ∨ d ∈ ns) → s' d = none ∧ look (clean ns st).hp d = none
  | [], st, s, D, _, x, h => ⟨s, x, fun d hd => h d (hd.resolve_right (by simp))⟩
  | n :: r, st, s, D, hf, x, h => by
    obtain ⟨s', h1, h2⟩ := clean_ok r ⟨woTm n st.tm, woHp n st.hp⟩ _ (fun d => D d ∨ d = n) (fun m hm => hf m (List.mem_cons_of_mem _ hm)) (x.wo n (hf n List.mem_cons_self)) (fun d hd => by
      by_cases e : d = n
      · subst e; simp [look_woHp]
      · obtain ⟨p, q⟩ := h d (hd.resolve_right e)
        simp [look_woHp, e, p, q])
    refine ⟨s', h1, fun d hd => h2 d ?_⟩
    rcases hd with q | q
    · exact .inl (.inl q)
    · rcases List.mem_cons.1 q with e | e
      · exact .inl (.inr e)
      · exact .inr e

end

/-- Rows of open values. -/
def RelVs (s : Nat → Option Loc) (I : Nat → Prop) (w : World) (xs : List V) (us : Array Value) : Prop :=
  us.size = xs.length ∧ ∀ (i : Nat) (x : V), xs[i]? = some x → ∃ u, us[i]? = some u ∧ RelV s I w x u

/-- The contract of a function that is handed memory: what it is given is as hp says, and then as hp' says; nothing else that was there has turned. -/
def Eff (P : Program) (f : FuncId) (args : List V) (hp : Hp) (r : V) (hp' : Hp) : Prop :=
  Runs P f ∧ ∀ (s : Nat → Option Loc) (I : Nat → Prop) (w : World) (us : Array Value), Rep s I w (look hp) → RelVs s I w args us →
    Calls P f us w fun e w' => ∃ v s' I', e = .returned v ∧ RelV s' I' w' r v ∧ Rep s' I' w' (look hp') ∧ Kept ⟨w, s, Owned s (look hp)⟩ w' ∧ (∀ b, I b → I' b) ∧
      (∀ b, I' b → I b ∨ Base.New ⟨w, s, Owned s (look hp)⟩ b) ∧ (∀ n L, look hp' n ≠ none → s' n = some L → Base.New ⟨w, s, Owned s (look hp)⟩ L.b) ∧
      (∀ n, far ≤ n → s' n = s n) ∧ ∀ n, n < far → look hp' n = none → s' n = none

/-- What a program's functions do. -/
def Has (P : Program) : Ctr := ⟨Pure P, Eff P⟩

theorem RelV.fwd {s s' : Nat → Option Loc} {I : Nat → Prop} {w : World} {q : Nat → Nat} {x : V} {v : Value} (h : RelV s I w x v) (hs : ∀ n L, s n = some L → s' (q n) = some L) : RelV s' I w (x.ren q) v := by
  have sub : ∀ (cs : List V) (i : Nat) (y : V), (V.renL q cs)[i]? = some y → ∃ c, cs[i]? = some c ∧ y = c.ren q := fun cs i y hy => by
    rw [renL_get] at hy
    obtain ⟨c, hc, rfl⟩ := Option.map_eq_some_iff.1 hy
    exact ⟨c, hc, rfl⟩
  induction h with
  | und v => exact .und v
  | t x v h => exact .t x v h
  | ptr n i j L h => exact .ptr _ i j L (hs n L h)
  | slc n i len L o cap h hl hm ho h0 ht => exact .slc _ i len L o cap (hs n L h) hl hm ho h0 ht
  | fnv f cs us vs hz hc hr ih => exact .fnv f _ us vs (by rw [renL_length]; exact hz) (fun i y hy => let ⟨c, h1, _⟩ := sub cs i y hy; hc i c h1) (fun i y hy => by obtain ⟨c, h1, rfl⟩ := sub cs i y hy; exact ih i c h1)
  | agg cs us vs hz hc ho hr ih => exact .agg _ us vs (by rw [renL_length]; exact hz) (fun i y hy => let ⟨c, h1, _⟩ := sub cs i y hy; hc i c h1) (fun i y hy => let ⟨c, h1, _⟩ := sub cs i y hy; ho i c h1) (fun i y hy => by obtain ⟨c, h1, rfl⟩ := sub cs i y hy; exact ih i c h1)
  | tup cs us vs hz hc hr ih => exact .tup _ us vs (by rw [renL_length]; exact hz) (fun i y hy => let ⟨c, h1, _⟩ := sub cs i y hy; hc i c h1) (fun i y hy => by obtain ⟨c, h1, rfl⟩ := sub cs i y hy; exact ih i c h1)

theorem Own.fwd {s s' : Nat → Option Loc} {I : Nat → Prop} {w : World} {q : Nat → Nat} {L : Loc} {o : Ob} (h : Own s I w L o) (hs : ∀ n L, s n = some L → s' (q n) = some L) : Own s' I w L (o.ren q) := by
  cases o with
  | box cs =>
    obtain ⟨C, el, h1, h2, h3, h4, h5⟩ := h
    refine ⟨C, el, h1, h2, by rw [renL_length]; exact h3, by rw [renL_length]; exact h4, fun i v hv => ?_⟩
    rw [renL_get] at hv
    obtain ⟨c, hc, rfl⟩ := Option.map_eq_some_iff.1 hv
    obtain ⟨u, a, b, d⟩ := h5 i c hc
    exact ⟨u, a, b.fwd hs, d⟩
  | row ty z es => exact h

theorem allL_get {ok : Nat → Bool} : ∀ {cs : List V} {i : Nat} {x : V}, V.allL ok cs = true → cs[i]? = some x → x.all ok = true
  | [], i, x, _, hx => by simp at hx
  | v :: r, 0, x, h, hx => by simp [V.allL] at h; simp at hx; subst hx; exact h.1
  | v :: r, i + 1, x, h, hx => by simp [V.allL] at h; exact allL_get h.2 (by simpa using hx)

theorem RelV.prune {s s' : Nat → Option Loc} {I : Nat → Prop} {w : World} {ok : Nat → Bool} {x : V} {v : Value} (h : RelV s I w x v) (hs : ∀ n, ok n = true → s' n = s n) : x.all ok = true → RelV s' I w x v := by
  induction h with
  | und v => exact fun _ => .und v
  | t x v h => exact fun _ => .t x v h
  | ptr n i j L h => exact fun a => .ptr n i j L ((hs n a).trans h)
  | slc n i len L o cap h hl hm ho h0 ht => exact fun a => .slc n i len L o cap ((hs n a).trans h) hl hm ho h0 ht
  | fnv f cs us vs hz hc hr ih => exact fun a => .fnv f cs us vs hz hc (fun i x hx => ih i x hx (allL_get a hx))
  | agg cs us vs hz hc ho hr ih => exact fun a => .agg cs us vs hz hc ho (fun i x hx => ih i x hx (allL_get a hx))
  | tup cs us vs hz hc hr ih => exact fun a => .tup cs us vs hz hc (fun i x hx => ih i x hx (allL_get a hx))

theorem Own.prune {s s' : Nat → Option Loc} {I : Nat → Prop} {w : World} {ok : Nat → Bool} {L : Loc} {o : Ob} (h : Own s I w L o) (hs : ∀ n, ok n = true → s' n = s n) (ha : o.all ok = true) : Own s' I w L o := by
  cases o with
  | box cs =>
    obtain ⟨C, el, h1, h2, h3, h4, h5⟩ := h
    exact ⟨C, el, h1, h2, h3, h4, fun i v hv => let ⟨u, a, b, d⟩ := h5 i v hv; ⟨u, a, b.prune hs (allL_get ha hv), d⟩⟩
  | row ty z es => exact h

theorem look_app {α : Type} (n : Nat) : ∀ (a b : List (Nat × α)), look (a ++ b) n = match look a n with | some x => some x | none => look b n
  | [], b => rfl
  | (k, x) :: r, b => by
    rw [List.cons_append, look_cons, look_cons]
    by_cases e : n = k
    · simp [e]
    · simp [e, look_app n r b]

theorem look_dropL (n : Nat) : ∀ (ns : List Nat) (h : Hp), look (dropL ns h) n = if n ∈ ns then none else look h n
  | [], h => by simp [dropL]
  | m :: r, h => by
    rw [dropL, look_dropL n r, look_drop]
    by_cases e : n = m
    · simp [e]
    · simp [e]

theorem nodup_key {α : Type} {q : Nat → Nat} {l : List (Nat × α)} (hn : (l.map fun x => q x.1).Nodup) {n m : Nat} {x y : α} (hx : (n, x) ∈ l) (hy : (m, y) ∈ l) (he : q n = q m) : n = m ∧ x = y := by
  obtain ⟨i, hi⟩ := List.mem_iff_getElem?.1 hx
  obtain ⟨j, hj⟩ := List.mem_iff_getElem?.1 hy
  have e1 : (l.map fun x => q x.1)[i]? = some (q n) := by simp [hi]
  have e2 : (l.map fun x => q x.1)[j]? = some (q m) := by simp [hj]
  have hij : i = j := (List.getElem?_inj (List.getElem?_eq_some_iff.1 e1).1 hn).1 (by rw [e1, e2, he])
  subst hij
  rw [hi] at hj; cases hj; exact ⟨rfl, rfl⟩

theorem look_mem {α : Type} {l : List (Nat × α)} {n : Nat} {x : α} (h : (n, x) ∈ l) : ∃ y, look l n = some y := by
  induction l with
  | nil => cases h
  | cons a r ih =>
    obtain ⟨k, y⟩ := a
    rw [look_cons]
    by_cases e : n = k
    · exact ⟨y, by simp [e]⟩
    · rcases List.mem_cons.1 h with q | q
      · cases q; exact (e rfl).elim
      · obtain ⟨z, hz⟩ := ih q; exact ⟨z, by simp [e, hz]⟩

theorem look_of {α : Type} {q : Nat → Nat} {l : List (Nat × α)} (hn : (l.map fun x => q x.1).Nodup) {n : Nat} {x : α} (h : (n, x) ∈ l) : look l n = some x := by
  obtain ⟨y, hy⟩ := look_mem h
  rw [hy, (nodup_key hn h (look_nodup hy) rfl).2]

section
variable {s : Nat → Option Loc} {I : Nat → Prop} {w : World} {h : Lk}

theorem cloL_allT : ∀ {k : Nat} {vs : List V} {xs ts : List T}, cloL k h vs = some xs → allT vs = some ts → xs = ts
  | 0, vs, xs, ts, hc, _ => by cases vs <;> simp [cloL] at hc
  | k + 1, [], xs, ts, hc, ha => by simp [cloL] at hc; simp [allT] at ha; rw [hc, ha]
  | k + 1, v :: r, xs, ts, hc, ha => by
    simp only [cloL] at hc
    split at hc
    · rename_i x xr h1 h2
      cases hc
      cases v <;> simp [allT] at ha
      obtain ⟨tr, h3, rfl⟩ := ha
      rw [cloL_allT h2 h3]
      cases k with
      | zero => simp [clo] at h1
      | succ k => simp [clo] at h1; rw [h1]
    · cases hc

theorem flat1_rel {I' : Nat → Prop} {w' : World} {x : T} {u : Value} (hf : flat1 x = true) (hr : RelT I w x u) : RelT I' w' x u := by
  cases hr <;> simp [flat1] at hf
  · exact .bool _
  · exact .int _ _
  · exact .str _
  · exact .nils
  · exact .nilp
  · exact .nilf

theorem flat_rel {I' : Nat → Prop} {w' : World} {x : T} {u : Value} (hf : flat x = true) (hr : RelT I w x u) : RelT I' w' x u := by
  have mem : ∀ (cs : List T) (i : Nat) (y : T), cs.all flat1 = true → cs[i]? = some y → flat1 y = true := fun cs i y h1 h2 => List.all_eq_true.1 h1 y (List.mem_of_getElem? h2)
  cases hr with
  | agg cs us vs hs hc ho hr => simp only [flat] at hf; exact .agg cs us vs hs hc ho (fun i x hx => flat1_rel (mem cs i x hf hx) (hr i x hx))
  | tup cs us vs hs hc hr => simp only [flat] at hf; exact .tup cs us vs hs hc (fun i x hx => flat1_rel (mem cs i x hf hx) (hr i x hx))
  | fn f cs us vs hs hc hr =>
    cases cs with
    | nil => exact .fn f [] us vs hs (fun i x hx => by simp at hx) (fun i x hx => by simp at hx)
    | cons c r => simp [flat, flat1] at hf
  | _ => exact flat1_rel (I := I) (w := w) (by simpa [flat] using hf) (by first | exact .bool _ | exact .int _ _ | exact .str _ | exact .nils | exact .nilp | exact .nilf | (simp [flat, flat1] at hf))

end

/-- An operand, as the engine has it and as the frame has it. -/
theorem vT1_rel {I : Nat → Prop} {w : World} {v : Value} {x : T} (h : vT1 v = some x) : RelT I w x v := by
  unfold vT1 at h
  split at h <;> simp at h <;> subst h
  · exact .bool _
  · exact .int _ _
  · exact .str _
  · exact .nils
  · exact .nilp
  · exact .nilf

theorem vT_rel {I : Nat → Prop} {w : World} {v : Value} {x : T} (h : vT v = some x) : RelT I w x v := by
  unfold vT at h
  split at h
  · rename_i cs
    obtain ⟨ts, hts, rfl⟩ := Option.map_eq_some_iff.1 h
    obtain ⟨a, b⟩ := relC_vTs (I := I) (w := w) hts
    refine .agg ts cs (fun i => cs.getD i undef) (by simpa using a.symm) ?_ ?_ ?_
    all_goals
      intro i x hx
      obtain ⟨u, p, q, r⟩ := b i x hx
      have p' : cs[i]? = some u := by simpa using p
      have e : cs.getD i undef = u := by rw [Array.getD_eq_getD_getElem?, p']; rfl
      rw [e]
      first | exact p' | exact r | exact q
  · exact vT1_rel h

theorem hop_of {s : Nat → Option Loc} {I : Nat → Prop} {w : World} {tm : Tm} {a : Act} (ht : TmOk s I w tm a) : ∀ X Y, trO X = some Y → RelV s I w (opd tm Y) (a.eval X) := by
  intro X Y h
  cases X with
  | tmp t =>
    simp [trO] at h; subst h
    simp only [opd, get, Act.eval]
    cases hq : look tm t with
    | none => exact .und _
    | some v => exact ht t v hq
  | const v =>
    simp [trO] at h
    obtain ⟨x, hx, rfl⟩ := h
    exact .t _ _ (vT_rel hx)
  | global g => simp [trO] at h
  | func f =>
    simp [trO] at h; subst h
    exact .t _ _ (.fn f [] #[] (fun _ => undef) rfl (fun i x hx => by simp at hx) (fun i x hx => by simp at hx))

theorem tmps_put (a : Act) (d : Option Nat) (v : Value) : (a.put d v).tmps.size = a.tmps.size := by cases d <;> simp [Act.put]
theorem defers_put (a : Act) (d : Option Nat) (v : Value) : (a.put d v).defers = a.defers := by cases d <;> rfl

theorem TmOk.put {s : Nat → Option Loc} {I : Nat → Prop} {w : World} {tm : Tm} {a : Act} {d : Option Nat} {v : V} {u : Value} (ht : TmOk s I w tm a) (hv : RelV s I w v u) (hd : ∀ n, d = some n → n < a.tmps.size) : TmOk s I w (Eng.put tm d v) (a.put d u) := by
  intro t x hx
  cases d with
  | none => exact ht t x hx
  | some n =>
    simp only [Eng.put, look_cons] at hx
    have hn := hd n rfl
    split at hx
    · rename_i e; subst e; cases hx
      have : (a.put (some t) u).tmps.getD t undef = u := by simp [Act.put, Array.getD_eq_getD_getElem?, hn]
      rw [this]; exact hv
    · rename_i e
      have : (a.put (some n) u).tmps.getD t undef = a.tmps.getD t undef := by simp [Act.put, Array.getD_eq_getD_getElem?, Array.getElem?_setIfInBounds, Ne.symm e]
      rw [this]; exact ht t x hx

/-- All slots that an operation, or a piece of code, writes lie in the frame. -/
def bndO (N : Nat) (o : OpI) : Bool := match o.dst with | some d => Nat.blt d N && Nat.blt d far | none => true
def bndC (ok : List OpI → Bool) (N : Nat) : Cd → Bool
  | .reg ops dr => ops.all (bndO N) && (!dr || ok ops)
  | .seq a b => bndC ok N a && bndC ok N b
  | .cond _ a b => bndC ok N a && bndC ok N b
  | .blk _ b => bndC ok N b
  | .loop b => bndC ok N b
  | _ => true

theorem bnd_dst {N : Nat} {o : OpI} (h : bndO N o = true) : ∀ n, o.dst = some n → n < N := by
  intro n hn
  unfold bndO at h; rw [hn] at h
  simp only [Bool.and_eq_true] at h
  exact Nat.le_of_ble_eq_true h.1

theorem bnd_far {N : Nat} {o : OpI} (h : bndO N o = true) : ∀ n, o.dst = some n → n < far := by
  intro n hn
  unfold bndO at h; rw [hn] at h
  simp only [Bool.and_eq_true] at h
  exact Nat.le_of_ble_eq_true h.2

theorem run_callFunc {P : Program} {f : FuncId} (h : Runs P f) (us : Array Value) (w : World) : (callFunc f us).run P w = .ok (.enter f us) w := by
  obtain ⟨fn, h1, h2, h3⟩ := h
  unfold callFunc
  simp only [Sem.run_bind, run_program, Result.andThen_ok, h1]
  rw [h2, h3]
  rfl

section
variable {P : Program} {w0 : Base} {I0 : Nat → Prop} {N : Nat}

/-- What a step owes. -/
def Nx (w0 : Base) (I0 : Nat → Prop) (N : Nat) (K : St → Prop) (a : Act) (w : World) : Prop := ∃ st, K st ∧ StR w0 I0 N st a w

theorem StR.eff {st : St} {a : Act} {w : World} {d : Nat} {v : V} {u : Value} {ef : Ef} {s' : Nat → Option Loc} {w' : World} {dst : Option Nat} {s : Nat → Option Loc} {I : Nat → Prop}
    (h1 : a.tmps.size = N) (h2 : a.defers = []) (h3 : TmOk s I w st.tm a) (h4 : Rep s I w (look st.hp)) (h5 : Kept w0 w) (h6 : ∀ n L, look st.hp n ≠ none → s n = some L → w0.New L.b) (h7 : ∀ b, I0 b → I b) (h8 : ∀ b, I b → I0 b ∨ w0.New b) (h9 : ∀ n, far ≤ n → s n = w0.s n)
    (hf : FxOk s I w (look st.hp) d ef s' w') (hv : RelV s' I w' v u) (hb : ∀ n, dst = some n → n < N) (hd : d < far) : StR w0 I0 N ⟨put (ef.tm d st.tm) dst v, ef.hp d st.hp⟩ (a.put dst u) w' := by
  obtain ⟨k1, k2, k3, k4, k5, k6⟩ := hf.keep h4
  have hrep := hf.rep h4
  have hnm := hf.names
  have htm : TmOk s' I w' (ef.tm d st.tm) a := by
    intro t x hx
    have clean : look (woTm d st.tm) t = some x → RelV s' I w' x (a.tmps.getD t undef) := by
      intro hx
      rw [look_woTm] at hx
      obtain ⟨y, hy, rfl⟩ := Option.map_eq_some_iff.1 hx
      exact ((h3 t y hy).wo hnm).mono (fun _ h => h) k6
    have same : s' = s → look st.tm t = some x → RelV s' I w' x (a.tmps.getD t undef) := by
      rintro rfl hx
      exact (h3 t x hx).mono (fun _ h => h) k6
    cases ef with
    | non => exact same hf.1 hx
    | add o => exact clean hx
    | set m o => obtain ⟨L, hs, _⟩ := hf; exact same hs hx
    | mov m o => exact clean hx
    | del m => exact hf.elim
  refine ⟨s', I, by rw [tmps_put]; exact h1, by rw [defers_put]; exact h2, htm.put hv (fun n hn => by rw [h1]; exact hb n hn), by rw [Ef.look_hp]; exact hrep, ?_, ?_, h7, h8, fun n hn => (hnm n (by omega)).trans (h9 n hn)⟩
  · refine h5.step k1 k2 k3 k4 fun b hb hnew => k5 b hb ?_
    intro hw
    cases ef with
    | non => exact hw
    | add o => exact hw
    | set m o => obtain ⟨L, hs, hL, hm, _⟩ := hf; obtain ⟨L', hL', rfl⟩ := hw; exact hnew (h6 m L' hm hL')
    | mov m o => obtain ⟨L, L2, hs, hL, hm, _⟩ := hf; obtain ⟨L', hL', rfl⟩ := hw; exact hnew (h6 m L' hm hL')
    | del m => exact hf.elim
  · intro n L hn hL
    rw [Ef.look_hp] at hn
    have hsz := h5.size
    have old : ∀ n, n ≠ d → (look st.hp n ≠ none) → s' n = some L → w0.New L.b := fun n hnd hn hL => h6 n L hn (by rw [← hnm n hnd]; exact hL)
    cases ef with
    | del m => exact hf.elim
    | non => obtain ⟨rfl, rfl⟩ := hf; exact h6 n L hn hL
    | add o =>
      obtain ⟨L', rfl, _, hge, _⟩ := hf
      by_cases e : n = d
      · subst e; rw [upd_self] at hL; cases hL; left; omega
      · exact old n e (by intro q; simp [Ef.lk, e, q] at hn) hL
    | set m o =>
      obtain ⟨L', rfl, hL', hm, _⟩ := hf
      by_cases e : n = m
      · subst e; exact h6 n L hm hL
      · exact h6 n L (by intro q; simp [Ef.lk, e, q] at hn) hL
    | mov m o =>
      obtain ⟨L', L2, rfl, hL', hm, _, hb2, _⟩ := hf
      by_cases e : n = d
      · subst e; rw [upd_self] at hL; cases hL
        have := h6 m L' hm hL'
        rcases hb2 with q | q
        · rw [q]; exact this
        · left; omega
      · refine old n e ?_ hL
        intro q
        by_cases e2 : n = m
        · simp [Ef.lk, e, e2] at hn
          exact e (e2.trans hn)
        · simp [Ef.lk, e, e2, q] at hn

theorem call_sound {st : St} {a : Act} {w : World} {f : Nat} {args : List V} {us : Array Value} {K : T → Prop} {o : Oper} {Q : Exit → Act → World → Prop} {K' : St → Prop} {dst : Option Nat} (hdst : o.dst = dst)
    (hrun : (execOp a.eval o).run P w = .ok (.enter f us) w ∨ Runs P f → (execOp a.eval o).run P w = .ok (.enter f us) w)
    (hW : callW (Pure P) f args (look st.hp) K) (hK : ∀ r, K r → K' ⟨put st.tm dst (.t r), st.hp⟩) (hb : ∀ n, dst = some n → n < N) {s : Nat → Option Loc} {I : Nat → Prop}
    (h1 : a.tmps.size = N) (h2 : a.defers = []) (h3 : TmOk s I w st.tm a) (h4 : Rep s I w (look st.hp)) (h5 : Kept w0 w) (h6 : ∀ n L, look st.hp n ≠ none → s n = some L → w0.New L.b) (h7 : ∀ b, I0 b → I b) (h8 : ∀ b, I b → I0 b ∨ w0.New b) (h9 : ∀ n, far ≤ n → s n = w0.s n)
    (hsz : us.size = args.length) (hrl : ∀ (i : Nat) (x : V), args[i]? = some x → ∃ u, us[i]? = some u ∧ RelV s I w x u) : o.wp P a w (Nx w0 I0 N K') Q := by
  unfold callW at hW
  split at hW
  · exact hW.elim
  · rename_i ts hts
    obtain ⟨r, ⟨hruns, hpure⟩, hflat, hk⟩ := hW
    unfold Oper.wp
    rw [hrun (.inr hruns)]
    rw [Oper.upon_enter]
    have hcl := (clo_rel h4 40).2 args ts hts
    have fin : ∀ (w' : World) (v : Value) (J : Nat → Prop), Below w.heap.size w w' → (∀ b, J b → w.heap.size ≤ b ∧ b < w'.heap.size) → RelT (fun b => I b ∨ J b) w' r v → Nx w0 I0 N K' (a.put o.dst v) w' := by
      intro w' v J hbel hJ hr
      have keepI : ∀ b, I b → w'.heap[b]? = w.heap[b]? := fun b hb => hbel.block b (h4.old b hb)
      refine ⟨_, hK r hk, s, fun b => I b ∨ J b, by rw [tmps_put]; exact h1, by rw [defers_put]; exact h2, ?_, ⟨?_, h4.inj, ?_⟩, h5.below hbel, h6, fun b hb => .inl (h7 b hb), ?_, h9⟩
      · rw [hdst]
        refine TmOk.put (fun t x hx => (h3 t x hx).mono (fun _ h => .inl h) keepI) (.t _ _ hr) (fun n hn => by rw [h1]; exact hb n hn)
      · intro n ob L hn hL
        obtain ⟨p1, p2⟩ := h4.own n ob L hn hL
        have hlt := h4.lt hn hL
        exact ⟨p1.mono (fun _ h => .inl h) keepI (hbel.block _ hlt) (fun _ _ h => h), fun q => q.elim p2 (fun j => by have := (hJ _ j).1; omega)⟩
      · intro b hb
        rcases hb with q | q
        · exact Nat.lt_of_lt_of_le (h4.old b q) hbel.size
        · exact (hJ b q).2
      · intro b hb
        rcases hb with q | q
        · exact h8 b q
        · have := (hJ b q).1; have := h5.size; right; left; omega
    have hold : ∀ b, (I b ∨ Owned s (look st.hp) b) → b < w.heap.size := by
      rintro b (q | ⟨n, L, hn, hL, rfl⟩)
      · exact h4.old b q
      · obtain ⟨ob, hob⟩ := Option.ne_none_iff_exists'.1 hn
        exact h4.lt hob hL
    cases ha : allT args with
    | some ts' =>
      have e := cloL_allT hts ha
      subst e
      have hmap := allT_some ha
      refine (hpure I w us h4.old ⟨by rw [hsz, hmap]; simp, fun i x hx => ?_⟩).mono ?_
      · obtain ⟨u, p, q⟩ := hrl i (.t x) (by rw [hmap, List.getElem?_map, hx]; rfl)
        exact ⟨u, p, q.inv_t⟩
      · rintro e w' ⟨v, rfl, hbel, hr⟩
        exact fin w' v _ hbel (fun b h => h) hr
    | none =>
      rw [ha] at hflat
      refine (hpure (fun b => I b ∨ Owned s (look st.hp) b) w us hold ⟨by rw [hsz, hcl.1], fun i x hx => ?_⟩).mono ?_
      · obtain ⟨v, hv, hh⟩ := hcl.2 i x hx
        obtain ⟨u, p, q⟩ := hrl i v hv
        exact ⟨u, p, hh u q⟩
      · rintro e w' ⟨v, rfl, hbel, hr⟩
        exact fin w' v (fun _ => False) hbel (fun b h => h.elim) (flat_rel hflat hr)

end

theorem callee_tr {P : Program} {o : Oper} {i : Ins} {tm : Tm} {f : Nat} {args : List V} (ht : trOp P o.op = some i) (hc : callee tm i = some (f, args)) {a : Act} {w : World} {s : Nat → Option Loc} {I : Nat → Prop} (hop : ∀ X Y, trO X = some Y → RelV s I w (opd tm Y) (a.eval X)) :
    ∃ us : Array Value, (Runs P f → (execOp a.eval o).run P w = .ok (.enter f us) w) ∧ us.size = args.length ∧ ∀ (i : Nat) (x : V), args[i]? = some x → ∃ u, us[i]? = some u ∧ RelV s I w x u := by
  have isCall : ∃ c f', o.op = .call c ∧ c.callee = .value f' ∧ (match trO f', trOs c.args.toList with | some (.c (.fn k [])), some as => some (Ins.call k as) | some (.t i), some as => some (.callv (.t i) as) | _, _ => none) = some i := by
    cases ho : o.op with
    | call c =>
      rw [ho] at ht; simp only [trOp] at ht
      split at ht
      · exfalso
        split at ht
        · split at ht <;> simp only [Option.map_eq_some_iff, reduceCtorEq] at ht <;> (obtain ⟨y, hy, rfl⟩ := ht; simp [callee] at hc)
        · split at ht
          · split at ht
            · split at ht
              · cases ht; simp [callee] at hc
              · cases ht
            · cases ht
          · cases ht
        · split at ht
          · split at ht
            · split at ht
              · cases ht; simp [callee] at hc
              · cases ht
            · cases ht
          · cases ht
        · split at ht
          · cases ht; simp [callee] at hc
          · cases ht
        · split at ht
          · cases ht; simp [callee] at hc
          · cases ht
        · cases ht
      · rename_i f' hf'; exact ⟨c, f', rfl, hf', ht⟩
      · cases ht
    | slice t x lo hi mx =>
      exfalso
      rw [ho] at ht
      cases mx with
      | some m => simp [trOp] at ht
      | none =>
        simp only [trOp] at ht
        split at ht
        · split at ht
          · cases ht; simp [callee] at hc
          · split at ht
            · cases ht; simp [callee] at hc
            · cases ht
          · cases ht
        · cases ht
    | _ =>
      exfalso
      have hni : ∀ f as, i ≠ .call f as := by
        rintro f as rfl
        rw [ho] at ht; simp only [trOp] at ht
        repeat' (split at ht)
        all_goals first | (cases ht; done) | (simp at ht; done) | (simp only [Option.map_eq_some_iff] at ht; obtain ⟨y, hy, h⟩ := ht; cases h)
      have hnv : ∀ x as, i ≠ .callv x as := by
        rintro f as rfl
        rw [ho] at ht; simp only [trOp] at ht
        repeat' (split at ht)
        all_goals first | (cases ht; done) | (simp at ht; done) | (simp only [Option.map_eq_some_iff] at ht; obtain ⟨y, hy, h⟩ := ht; cases h)
      have hnw : ∀ f as, i ≠ .callw f as := by
        rintro f as rfl
        rw [ho] at ht; simp only [trOp] at ht
        repeat' (split at ht)
        all_goals first | (cases ht; done) | (simp at ht; done) | (simp only [Option.map_eq_some_iff] at ht; obtain ⟨y, hy, h⟩ := ht; cases h)
      cases i <;> simp [callee] at hc
      · exact hni _ _ rfl
      · exact hnv _ _ rfl
      · exact hnw _ _ rfl
  obtain ⟨c, f', ho, hcal, htr⟩ := isCall
  have enter : ∀ (g : Nat) (cap : Array Value), a.eval f' = .func (.func g) #[] cap → Runs P g → (execOp a.eval o).run P w = .ok (.enter g ((c.args.map a.eval) ++ cap)) w := by
    intro g cap hf hr
    have := run_callFunc hr ((c.args.map a.eval) ++ cap) w
    simp only [execOp, ho, resolve, hcal, Deferred.ofValue, hf, invoke, Sem.run_bind, Sem.run_pure, Result.andThen_ok, Array.empty_append]
    exact this
  split at htr
  · rename_i k as h1 h2
    cases htr
    simp only [callee, Option.some.injEq, Prod.mk.injEq] at hc
    obtain ⟨rfl, rfl⟩ := hc
    have hf : a.eval f' = .func (.func k) #[] #[] := by
      rcases trO_const h1 with ⟨v, rfl, hv⟩ | ⟨g, rfl, hg⟩
      · exfalso
        unfold vT at hv
        split at hv
        · simp at hv
        · unfold vT1 at hv; split at hv <;> simp at hv
      · cases hg; rfl
    obtain ⟨g, q1, q2, q3⟩ := trOs_map (a := a) hop h2
    have e1 : (c.args.map a.eval) ++ #[] = (c.args.toList.map a.eval).toArray := Array.ext' (by simp only [Array.toList_append, Array.toList_map, List.append_nil])
    refine ⟨(c.args.map a.eval) ++ #[], enter k #[] hf, by rw [e1]; exact q1, fun i x hx => ⟨g i, by rw [e1]; exact q2 i x hx, q3 i x hx⟩⟩
  · rename_i t as h1 h2
    cases htr
    obtain ⟨g, q1, q2, q3⟩ := trOs_map (a := a) hop h2
    have hx := hop f' (.t t) h1
    have cat : ∀ (caps : List V) (us : Array Value) (vs : Nat → Value), us.size = caps.length → (∀ (i : Nat) (x : V), caps[i]? = some x → us[i]? = some (vs i)) → (∀ (i : Nat) (x : V), caps[i]? = some x → RelV s I w x (vs i)) →
        ((c.args.map a.eval) ++ us).size = (as.map (opd tm) ++ caps).length ∧ ∀ (i : Nat) (x : V), (as.map (opd tm) ++ caps)[i]? = some x → ∃ u, ((c.args.map a.eval) ++ us)[i]? = some u ∧ RelV s I w x u := by
      intro caps us vs hs hc' hr
      have e1 : c.args.map a.eval = (c.args.toList.map a.eval).toArray := Array.ext' (by rw [Array.toList_map])
      have hsz : (c.args.map a.eval).size = (as.map (opd tm)).length := by rw [e1]; exact q1
      refine ⟨by rw [Array.size_append, List.length_append, hsz, hs], fun i x hx => ?_⟩
      rw [List.getElem?_append] at hx
      split at hx
      · rename_i hlt
        refine ⟨g i, ?_, q3 i x hx⟩
        rw [Array.getElem?_append, if_pos (by omega), e1]
        exact q2 i x hx
      · refine ⟨_, ?_, hr _ x hx⟩
        rw [Array.getElem?_append, if_neg (by omega), hsz]
        exact hc' _ x hx
    simp only [callee] at hc
    split at hc
    · rename_i g' caps hcap
      cases hc
      rw [hcap] at hx
      have hx' := hx.inv_t
      generalize hfe : a.eval f' = fv at hx'
      cases hx' with
      | fn _ _ us vs hs hcc hr =>
        have key : ∀ (i : Nat) (x : V), (caps.map V.t)[i]? = some x → ∃ y, caps[i]? = some y ∧ x = .t y := fun i x hx => by
          rw [List.getElem?_map] at hx
          obtain ⟨y, h1, h2⟩ := Option.map_eq_some_iff.1 hx
          exact ⟨y, h1, h2.symm⟩
        obtain ⟨p1, p2⟩ := cat (caps.map .t) us vs (by simpa using hs) (fun i x hx => let ⟨y, h, _⟩ := key i x hx; hcc i y h) (fun i x hx => by obtain ⟨y, h, rfl⟩ := key i x hx; exact .t _ _ (hr i y h))
        exact ⟨_, enter f us hfe, p1, p2⟩
    · rename_i g' caps hcap
      cases hc
      rw [hcap] at hx
      generalize hfe : a.eval f' = fv at hx
      cases hx with
      | fnv _ _ us vs hs hcc hr =>
        obtain ⟨p1, p2⟩ := cat caps us vs hs hcc hr
        exact ⟨_, enter f us hfe, p1, p2⟩
    · cases hc
  · cases htr

section
variable {P : Program} {w0 : Base} {I0 : Nat → Prop} {N : Nat}

theorem eff_sound {o : Oper} {oi : OpI} {st : St} {K : St → Prop} {a : Act} {w : World} {Q : Exit → Act → World → Prop} (ht : trOp P o.op = some oi.ins) (hd : o.dst = oi.dst) (hb : bndO N oi = true) (hW : effW (Eff P) oi st K) (hs : StR w0 I0 N st a w) :
    o.wp P a w (Nx w0 I0 N K) Q := by
  have hbd := bnd_dst hb
  obtain ⟨p, st1, ns, q, f, args, args0, hp0, r, hp1, hle, hns, hc, ⟨hruns, hE⟩, hal, hav, hh0, hnd0, hnd1, hnew, hq, hK⟩ := hW
  have hs1 : StR w0 I0 N st1 a w := by
    rcases hle with rfl | hle
    · exact hs
    · exact hs.le hle
  obtain ⟨s, I, h1, h2, h3, h4, h5, h6, h7, h8, h9⟩ := hs1
  obtain ⟨s', x, hx⟩ := clean_ok ns st1 s (fun _ => False) hns ⟨h1, h2, h3, h4, h5, h6, h7, h8, h9⟩ (fun d h => h.elim)
  have hx' : ∀ d ∈ ns, s' d = none ∧ look (clean ns st1).hp d = none := fun d h => hx d (.inr h)
  generalize clean ns st1 = cl at *
  obtain ⟨us, r1, r2, r3⟩ := callee_tr (w := w) ht hc (hop_of x.tm)
  have own0 : ∀ n o, look hp0 n = some o → ∃ c, look cl.hp (q n) = some c ∧ leO c (o.ren q) := fun n o hn => hh0 (n, o) (look_nodup hn)
  have hrep0 : Rep (fun n => s' (q n)) I w (look hp0) := by
    refine ⟨fun n o L hn hL => ?_, fun n m L M hn hm hL hM e => ?_, x.rep.old⟩
    · obtain ⟨c, hc, hl⟩ := own0 n o hn
      obtain ⟨a1, a2⟩ := x.rep.own (q n) c L hc hL
      exact ⟨own_ren (a1.le hl), a2⟩
    · obtain ⟨o, ho⟩ := Option.ne_none_iff_exists'.1 hn
      obtain ⟨o', ho'⟩ := Option.ne_none_iff_exists'.1 hm
      obtain ⟨c, hc, -⟩ := own0 n o ho
      obtain ⟨c', hc', -⟩ := own0 m o' ho'
      exact (nodup_key hnd0 (look_nodup ho) (look_nodup ho') (x.rep.inj (q n) (q m) L M (by simp [hc]) (by simp [hc']) hL hM e)).1
  have hargs : RelVs (fun n => s' (q n)) I w args0 us := by
    refine ⟨r2.trans hal, fun i y hy => ?_⟩
    obtain ⟨z, hz⟩ : ∃ z, args[i]? = some z := ⟨_, List.getElem?_eq_getElem (by rw [hal]; exact (List.getElem?_eq_some_iff.1 hy).1)⟩
    obtain ⟨u, hu, hr⟩ := r3 i z hz
    exact ⟨u, hu, relV_ren (hr.le (hav i z y hz hy)) y rfl⟩
  have ownd : ∀ b, Owned (fun n => s' (q n)) (look hp0) b → ∃ n c L, look hp0 n ≠ none ∧ look cl.hp (q n) = some c ∧ s' (q n) = some L ∧ L.b = b := by
    rintro b ⟨n, L, hn, hL, rfl⟩
    obtain ⟨o, ho⟩ := Option.ne_none_iff_exists'.1 hn
    obtain ⟨c, hc, -⟩ := own0 n o ho
    exact ⟨n, c, L, hn, hc, hL, rfl⟩
  have ownNew : ∀ b, Owned (fun n => s' (q n)) (look hp0) b → w0.New b := fun b hb => by
    obtain ⟨n, c, L, _, hc, hL, rfl⟩ := ownd b hb
    exact x.own (q n) L (by simp [hc]) hL
  have hsz := x.below.size
  have newNew : ∀ b, Base.New ⟨w, fun n => s' (q n), Owned (fun n => s' (q n)) (look hp0)⟩ b → w0.New b := fun b hb => by
    rcases hb with h | h
    · exact .inl (Nat.le_trans hsz h)
    · exact ownNew b h
  unfold Oper.wp
  rw [r1 hruns, Oper.upon_enter]
  refine (hE (fun n => s' (q n)) I w us hrep0 hargs).mono ?_
  rintro e w' ⟨v, s1, I1, rfl, hv, hrep1, hkept, kI, kI', kloc, kfar, knone⟩
  have nsNo : ∀ n L, s' n = some L → n ∉ ns := fun n L h hn => by rw [(hx' n hn).1] at h; cases h
  obtain ⟨s2, hs2⟩ : ∃ s2 : Nat → Option Loc, ∀ m, s2 m = if m ∈ ns then s1 m else s' m := ⟨fun m => if m ∈ ns then s1 m else s' m, fun _ => rfl⟩
  have ext : ∀ n L, s' n = some L → s2 n = some L := fun n L h => by rw [hs2, if_neg (nsNo n L h)]; exact h
  have inNs : ∀ n, n < far → look hp1 n ≠ none → n ∈ ns := fun n hn h => by
    obtain ⟨o, ho⟩ := Option.ne_none_iff_exists'.1 h
    exact hnew (n, o) (look_nodup ho) hn
  have fwd : ∀ n L, s1 n = some L → s2 (q n) = some L := fun n L h => by
    by_cases hn : n < far
    · have hl : look hp1 n ≠ none := fun e => by rw [knone n hn e] at h; cases h
      rw [hq n hn, hs2, if_pos (inNs n hn hl)]; exact h
    · rw [kfar n (by omega)] at h
      exact ext _ _ h
  have bwd : ∀ n L, look hp1 n ≠ none → s2 (q n) = some L → s1 n = some L := fun n L hl h => by
    by_cases hn : n < far
    · rw [hq n hn, hs2, if_pos (inNs n hn hl)] at h; exact h
    · rw [hs2] at h
      split at h
      · rename_i hm
        have hqf := hns _ hm
        have hl2 : look hp1 (q n) ≠ none := fun e => by rw [knone _ hqf e] at h; cases h
        obtain ⟨o, ho⟩ := Option.ne_none_iff_exists'.1 hl
        obtain ⟨o', ho'⟩ := Option.ne_none_iff_exists'.1 hl2
        have := (nodup_key hnd1 (look_nodup ho) (look_nodup ho') (hq _ hqf).symm).1
        omega
      · rw [kfar n (by omega)]; exact h
  have keepI : ∀ b, I b → w'.heap[b]? = w.heap[b]? := fun b hb => hkept.block b (x.rep.old b hb) (fun ho => by
    obtain ⟨n, c, L, _, hc, hL, rfl⟩ := ownd b ho
    exact (x.rep.own _ c L hc hL).2 hb)
  have hlk : ∀ m o, look (renHp q hp1 ++ dropL (hp0.map fun x => q x.1) cl.hp) m = some o →
      (∃ n o0, look hp1 n = some o0 ∧ m = q n ∧ o = o0.ren q) ∨ (m ∉ (hp0.map fun x => q x.1) ∧ look cl.hp m = some o) := by
    intro m o h
    rw [look_app] at h
    split at h
    · rename_i y hy
      cases h
      have := look_nodup hy
      unfold renHp at this
      obtain ⟨⟨n, o0⟩, hm, he⟩ := List.mem_map.1 this
      cases he
      exact .inl ⟨n, o0, look_of hnd1 hm, rfl, rfl⟩
    · rw [look_dropL] at h
      split at h
      · cases h
      · rename_i hm; exact .inr ⟨hm, h⟩
  have restOwn : ∀ m o L, m ∉ (hp0.map fun x => q x.1) → look cl.hp m = some o → s' m = some L → ¬ Owned (fun n => s' (q n)) (look hp0) L.b := by
    intro m o L hm ho hL hO
    obtain ⟨n, c, L', hn, hc, hL', hb⟩ := ownd _ hO
    have e := x.rep.inj (q n) m L' L (by simp [hc]) (by simp [ho]) hL' hL hb
    obtain ⟨o', ho'⟩ := Option.ne_none_iff_exists'.1 hn
    exact hm (by rw [← e]; exact List.mem_map.2 ⟨(n, o'), look_nodup ho', rfl⟩)
  have s2rest : ∀ m o, look cl.hp m = some o → s2 m = s' m := fun m o h => by
    rw [hs2]; split
    · rename_i hm; rw [(hx' m hm).2] at h; cases h
    · rfl
  refine ⟨_, hK, s2, I1, by rw [tmps_put]; exact x.size, by rw [defers_put]; exact x.defers, ?_, ⟨fun m o L hm hL => ?_, fun m k L M hm hk hL hM e => ?_, hrep1.old⟩, ?_, fun m L hm hL => ?_, fun b hb => kI b (x.inc b hb), fun b hb => ?_, fun m hm => ?_⟩
  · rw [hd]
    exact TmOk.put (fun t y hy => ((x.tm t y hy).ext ext).mono kI keepI) (hv.fwd fwd) (fun n hn => by rw [x.size]; exact hbd n hn)
  · rcases hlk m o hm with ⟨n, o0, hn, rfl, rfl⟩ | ⟨hm1, hm2⟩
    · obtain ⟨a1, a2⟩ := hrep1.own n o0 L hn (bwd n L (by simp [hn]) hL)
      exact ⟨a1.fwd fwd, a2⟩
    · rw [s2rest m o hm2] at hL
      obtain ⟨a1, a2⟩ := x.rep.own m o L hm2 hL
      have hlt := x.rep.lt hm2 hL
      have hno := restOwn m o L hm1 hm2 hL
      refine ⟨a1.mono kI keepI (hkept.block _ hlt hno) (fun v u h => h.ext ext), fun h => ?_⟩
      rcases kI' _ h with h | h | h
      · exact a2 h
      · have : w.heap.size ≤ L.b := h
        omega
      · exact hno h
  · obtain ⟨o, ho⟩ := Option.ne_none_iff_exists'.1 hm
    obtain ⟨o', ho'⟩ := Option.ne_none_iff_exists'.1 hk
    have apart : ∀ n o0 k o' L M, look hp1 n = some o0 → s1 n = some L → k ∉ (hp0.map fun x => q x.1) → look cl.hp k = some o' → s' k = some M → L.b ≠ M.b := by
      intro n o0 k o' L M hn hL hk ho' hM e
      have hlt := x.rep.lt ho' hM
      rcases kloc n L (by simp [hn]) hL with h | h
      · have : w.heap.size ≤ L.b := h
        omega
      · exact restOwn k o' M hk ho' hM (by rw [← e]; exact h)
    rcases hlk m o ho with ⟨n, o0, hn, rfl, rfl⟩ | ⟨hm1, hm2⟩
    · have hL' := bwd n L (by simp [hn]) hL
      rcases hlk k o' ho' with ⟨n', o1, hn', rfl, rfl⟩ | ⟨hk1, hk2⟩
      · rw [hrep1.inj n n' L M (by simp [hn]) (by simp [hn']) hL' (bwd n' M (by simp [hn']) hM) e]
      · rw [s2rest k o' hk2] at hM
        exact (apart n o0 k o' L M hn hL' hk1 hk2 hM e).elim
    · rw [s2rest m o hm2] at hL
      rcases hlk k o' ho' with ⟨n', o1, hn', rfl, rfl⟩ | ⟨hk1, hk2⟩
      · exact (apart n' o1 m o M L hn' (bwd n' M (by simp [hn']) hM) hm1 hm2 hL e.symm).elim
      · rw [s2rest k o' hk2] at hM
        exact x.rep.inj m k L M (by simp [hm2]) (by simp [hk2]) hL hM e
  · exact x.below.step hkept.os hkept.tape hkept.output hkept.size (fun k hk hn => hkept.block k hk (fun h => hn (ownNew k h)))
  · obtain ⟨o, ho⟩ := Option.ne_none_iff_exists'.1 hm
    rcases hlk m o ho with ⟨n, o0, hn, rfl, rfl⟩ | ⟨hm1, hm2⟩
    · exact newNew _ (kloc n L (by simp [hn]) (bwd n L (by simp [hn]) hL))
    · rw [s2rest m o hm2] at hL
      exact x.own m L (by simp [hm2]) hL
  · rcases kI' b hb with h | h
    · exact x.new b h
    · exact .inr (newNew b h)
  · rw [hs2, if_neg (fun h => by have := hns m h; omega)]; exact x.outer m hm

theorem step_sound {o : Oper} {oi : OpI} {st : St} {K : St → Prop} {a : Act} {w : World} {Q : Exit → Act → World → Prop} (ht : trOp P o.op = some oi.ins) (hd : o.dst = oi.dst) (hb : bndO N oi = true) (hW : stepW (Has P) oi st K) (hs : StR w0 I0 N st a w) :
    o.wp P a w (Nx w0 I0 N K) Q := by
  have hbd := bnd_dst hb
  unfold stepW at hW
  split at hW
  · rename_i f args hc
    obtain ⟨s, I, h1, h2, h3, h4, h5, h6, h7, h8, h9⟩ := hs
    obtain ⟨us, r1, r2, r3⟩ := callee_tr (w := w) ht hc (hop_of h3)
    rcases hW with hW | hW
    · exact call_sound (us := us) hd (fun q => q.elim id r1) hW (fun r hr => hr) hbd h1 h2 h3 h4 h5 h6 h7 h8 h9 r2 r3
    · exact eff_sound ht hd hb hW ⟨s, I, h1, h2, h3, h4, h5, h6, h7, h8, h9⟩
  · rename_i hc
    obtain ⟨s, I, h1, h2, h3, h4, h5, h6, h7, h8, h9⟩ := hs
    have go : ∀ (d : Nat) (v : V) (ef : Ef), ev oi.ins d st.tm (look st.hp) = some (v, ef) → (K ⟨put (ef.tm d st.tm) oi.dst v, ef.hp d st.hp⟩) → d < far → o.wp P a w (Nx w0 I0 N K) Q := by
      intro d v ef hev hK hdf
      obtain ⟨nx, u, s', w', hr, hnx, hf, hv⟩ := sim ht hev (hop_of h3) h4
      have hst := StR.eff (w0 := w0) (I0 := I0) (N := N) h1 h2 h3 h4 h5 h6 h7 h8 h9 hf hv hbd hdf
      unfold Oper.wp
      rw [hr]
      rcases hnx with rfl | ⟨rfl, rfl⟩
      · rw [Oper.upon_value, hd]; exact ⟨_, hK, hst⟩
      · rw [Oper.upon_skip, hd]; exact ⟨_, hK, hst⟩
    split at hW
    · rename_i d hdd
      split at hW
      · rename_i v e hev
        exact go d v e hev hW (bnd_far hb d hdd)
      · split at hW
        · obtain ⟨-, p, st1, v, e, hle, hev, hK⟩ := hW
          obtain ⟨s, I, h1, h2, h3, h4, h5, h6, h7, h8, h9⟩ := StR.le ⟨s, I, h1, h2, h3, h4, h5, h6, h7, h8, h9⟩ hle
          obtain ⟨nx, u, s', w', hr, hnx, hf, hv⟩ := sim ht hev (hop_of h3) h4
          have hst := StR.eff (w0 := w0) (I0 := I0) (N := N) h1 h2 h3 h4 h5 h6 h7 h8 h9 hf hv hbd (bnd_far hb d hdd)
          unfold Oper.wp
          rw [hr]
          rcases hnx with rfl | ⟨rfl, rfl⟩
          · rw [Oper.upon_value, hd]; exact ⟨_, hK, hst⟩
          · rw [Oper.upon_skip, hd]; exact ⟨_, hK, hst⟩
        · exact hW.elim
    · rename_i hdd
      split at hW
      · exact hW.elim
      · rename_i hnd
        split at hW
        · rename_i v e hev
          have : e.tm 0 st.tm = st.tm := by
            cases hi : oi.ins <;> rw [hi] at hnd <;> simp [Ins.nodst] at hnd
            all_goals
              rw [hi] at hev
              simp only [ev, Option.map_eq_some_iff] at hev
              obtain ⟨e', he', heq⟩ := hev
              cases heq
              first | unfold evSt at he' | unfold evClr at he'
              repeat' (split at he')
              all_goals first | (cases he'; done) | (cases he'; rfl)
          refine go 0 v e hev ?_ (by unfold far; omega)
          rw [hdd, this]; exact hW
        · exact hW.elim

/-- A guard. -/
theorem guard_rel {ops : Array Oper} {o : Oper} {st : St} {a : Act} {w : World} {g : Nat} {want : Bool} {j : Nat} (hg : o.guard = some (j, want)) (hj : (ops[j]?).bind (·.dst) = some g) (hs : StR w0 I0 N st a w) :
    (∀ b, get st.tm g = .t (.bool b) → Region.wanted o (yielded ops a.tmps) = (b == want)) ∧ (get st.tm g = .t (.tup []) → Region.wanted o (yielded ops a.tmps) = false) := by
  obtain ⟨s, I, h1, h2, h3, h4, -⟩ := hs
  have key : ∀ v, get st.tm g = v → v ≠ .und → RelV s I w v (a.tmps.getD g undef) := by
    intro v hv hne
    unfold get at hv
    cases hq : look st.tm g with
    | none => rw [hq] at hv; exact (hne hv.symm).elim
    | some x => rw [hq] at hv; subst hv; exact h3 g x hq
  refine ⟨fun b hb => ?_, fun hb => ?_⟩
  · have := (key _ hb (by simp)).inv_t
    generalize hq : a.tmps.getD g undef = q at this
    cases this
    have hy : a.tmps[g]? = some (.bool b) := by
      rw [Array.getD_eq_getD_getElem?] at hq
      cases hz : a.tmps[g]? with
      | none => rw [hz] at hq; simp [undef] at hq
      | some z => rw [hz] at hq; simp at hq; rw [hq]
    simp [Region.wanted, hg, yielded, hj, hy]
  · have := (key _ hb (by simp)).inv_t
    generalize hq : a.tmps.getD g undef = q at this
    cases this with
    | tup _ us vs hsz hc hr =>
      have hy : a.tmps[g]? = none ∨ a.tmps[g]? = some (.tuple us) := by
        rw [Array.getD_eq_getD_getElem?] at hq
        cases hz : a.tmps[g]? with
        | none => exact .inl rfl
        | some z => rw [hz] at hq; simp at hq; exact .inr (by rw [hq])
      rcases hy with hy | hy <;> simp [Region.wanted, hg, yielded, hj, hy]

theorem skip_sound {st : St} {a : Act} {w : World} {dst : Option Nat} (hs : StR w0 I0 N st a w) (hb : ∀ n, dst = some n → n < N) : StR w0 I0 N ⟨put st.tm dst (.t (.tup [])), st.hp⟩ (a.put dst undef) w := by
  obtain ⟨s, I, h1, h2, h3, h4, h5, h6, h7, h8, h9⟩ := hs
  exact ⟨s, I, by rw [tmps_put]; exact h1, by rw [defers_put]; exact h2, h3.put (.t _ _ (.tup [] #[] (fun _ => undef) rfl (fun i x hx => by simp at hx) (fun i x hx => by simp at hx))) (fun n hn => by rw [h1]; exact hb n hn), h4, h5, h6, h7, h8, h9⟩

theorem trOper_spec {ops : Array Oper} {dr : Bool} {o : Oper} {oi : OpI} (h : trOper P ops dr o = some oi) : trOp P o.op = some oi.ins ∧ o.dst = oi.dst ∧ ((o.guard = none ∧ oi.gd = none) ∨ ∃ j w g, o.guard = some (j, w) ∧ (ops[j]?).bind (·.dst) = some g ∧ oi.gd = some (g, w)) := by
  unfold trOper at h
  split at h
  · cases h
  · rename_i i hi
    split at h
    · rename_i hg; cases h; exact ⟨hi, rfl, .inl ⟨hg, rfl⟩⟩
    · rename_i j w hg
      split at h
      · rename_i g hj; cases h; exact ⟨hi, rfl, .inr ⟨j, w, g, hg, hj, rfl⟩⟩
      · cases h

/-- One operation of a region, guard and all. -/
theorem op_sound {ops : Array Oper} {dr : Bool} {o : Oper} {oi : OpI} {st : St} {K : St → Prop} {a : Act} {w : World} {Q : Exit → Act → World → Prop} (ht : trOper P ops dr o = some oi) (hb : bndO N oi = true) (hs : StR w0 I0 N st a w)
    (hW : gdW (Has P) oi st K) :
    if Region.wanted o (yielded ops a.tmps) then o.wp P a w (Nx w0 I0 N K) Q ∨ (o.asks P a w ∧ LetsOut Q) else Nx w0 I0 N K (a.put o.dst undef) w := by
  obtain ⟨h1, h2, h3⟩ := trOper_spec ht
  unfold gdW at hW
  rcases h3 with ⟨g1, g2⟩ | ⟨j, want, g, g1, g2, g3⟩
  · rw [g2] at hW
    have : Region.wanted o (yielded ops a.tmps) = true := by simp [Region.wanted, g1]
    rw [this, if_pos rfl]
    exact .inl (step_sound h1 h2 hb hW hs)
  · rw [g3] at hW
    obtain ⟨k1, k2⟩ := guard_rel g1 g2 hs
    simp only at hW
    split at hW
    · rename_i b hbv
      rw [k1 b hbv]
      split at hW
      · rename_i he; rw [he, if_pos rfl]; exact .inl (step_sound h1 h2 hb hW hs)
      · rename_i he; rw [he]; simp only [Bool.false_eq_true, if_false]
        rw [h2]; exact ⟨_, hW, skip_sound hs (bnd_dst hb)⟩
    · rename_i hbv
      rw [k2 hbv]; simp only [Bool.false_eq_true, if_false]
      rw [h2]; exact ⟨_, hW, skip_sound hs (bnd_dst hb)⟩
    · exact hW.elim

theorem ops_sound {ops : Array Oper} {Q : Exit → Act → World → Prop} : ∀ (l : List Oper) (ois : List OpI) (k : Nat), (∀ i, l[i]? = ops[k + i]?) → trOpers P ops false l = some ois → ois.all (bndO N) = true → ∀ (st : St) (K : St → Prop) (a : Act) (w : World), opsW (Has P) ois st K → StR w0 I0 N st a w →
    (∀ st' a' w', K st' → StR w0 I0 N st' a' w' → Q .normal a' w') → wpOps P ops Q ((List.range l.length).map (k + ·)) a w
  | [], ois, k, hl, ht, hb, st, K, a, w, hW, hs, hQ => by
    simp [trOpers] at ht; subst ht
    exact hQ st a w hW hs
  | o :: r, ois, k, hl, ht, hb, st, K, a, w, hW, hs, hQ => by
    simp only [trOpers] at ht
    split at ht
    · rename_i oi ois' h1 h2
      cases ht
      simp only [List.all_cons, Bool.and_eq_true] at hb
      have hk : ops[k]? = some o := by have := hl 0; simpa using this.symm
      have hidx : (List.range (o :: r).length).map (k + ·) = k :: (List.range r.length).map (k + 1 + ·) := by
        rw [List.length_cons, List.range_succ_eq_map]
        simp [Nat.add_assoc, Nat.add_comm 1]
      rw [hidx]
      have ih : ∀ st' a' w', opsW (Has P) ois' st' K → StR w0 I0 N st' a' w' → wpOps P ops Q ((List.range r.length).map (k + 1 + ·)) a' w' := fun st' a' w' hw' hs' =>
        ops_sound r ois' (k + 1) (fun i => by have := hl (i + 1); simpa [Nat.add_assoc, Nat.add_comm 1] using this) h2 hb.2 st' K a' w' hw' hs' hQ
      have hop := op_sound (Q := Q) (K := fun st' => opsW (Has P) ois' st' K) h1 hb.1 hs hW
      simp only [wpOps, hk]
      split
      · rename_i hw
        rw [if_pos hw] at hop
        refine hop.imp (Oper.wp_mono fun a' w' hn => ?_) id
        obtain ⟨st', k1, k2⟩ := hn
        exact ih st' a' w' k1 k2
      · rename_i hw
        rw [if_neg hw] at hop
        obtain ⟨st', k1, k2⟩ := hop
        exact ih st' _ _ k1 k2
    · cases ht

theorem wp_loop_falls {c : Code} {Q : Exit → Act → World → Prop} (Inv : Nat → Act → World → Prop) (round : ∀ m a w, Inv m a w → c.wp P (Exit.then (fun a' w' => ∃ m', m' < m ∧ Inv m' a' w') Q) a w) : ∀ m a w, Inv m a w → (Code.loop c).wp P Q a w := by
  intro m a w h0 b k cs
  have key : ∀ m a w, Inv m a w → ∃ e a' w', Q e a' w' ∧ Arrives P (lone (b.at a (.code c :: .inLoop c :: k)) cs w) b k cs e a' w' := by
    intro m
    induction m using Nat.strongRecOn with
    | _ m ih =>
      intro a w hI
      obtain ⟨e, a₁, w₁, hq, harr⟩ := round m a w hI b (.inLoop c :: k) cs
      cases e with
      | normal =>
        obtain ⟨m', hlt, hI₁⟩ := hq
        obtain ⟨e₂, a₂, w₂, hq₂, harr₂⟩ := ih m' hlt a₁ w₁ hI₁
        exact ⟨e₂, a₂, w₂, hq₂, .of_steps (Steps.trans harr (.one step_inLoop)) harr₂⟩
      | _ => exact ⟨_, a₁, w₁, hq, .pass (x := .inLoop c) rfl (fun _ _ => .inl (by simp)) harr⟩
  obtain ⟨e, a', w', hq, harr⟩ := key m a w h0
  exact ⟨e, a', w', hq, .of_steps (.one step_loop) harr⟩

def exR : Exit → Ex → Prop
  | .normal, .nrm => True
  | .exit i, .exit j => i = j
  | .ret, .ret => True
  | _, _ => False

/-- What a piece of code comes to. -/
def CPost (w0 : Base) (I0 : Nat → Prop) (N : Nat) (Q : Ex → St → Prop) (e : Exit) (a : Act) (w : World) : Prop := ∃ ex st, exR e ex ∧ Q ex st ∧ StR w0 I0 N st a w

/-- Regions that draw their order are sound. -/
def DOk (P : Program) (ok : List OpI → Bool) (D : List OpI → St → (St → Prop) → Prop) : Prop :=
  ∀ (w0 : Base) (I0 : Nat → Prop) (N : Nat) (id : Nat) (ops : Array Oper) (ois : List OpI) (st : St) (K : St → Prop) (a : Act) (w : World), trOpers P ops true ops.toList = some ois → (loosen ois).all (bndO N) = true → ok (loosen ois) = true → D (loosen ois) st K → StR w0 I0 N st a w →
    (Code.region id ops true).wp P (CPost w0 I0 N fun ex st' => ex = .nrm ∧ K st') a w

theorem W_sound {ok : List OpI → Bool} {D : List OpI → St → (St → Prop) → Prop} (hD : DOk P ok D) : ∀ (c : Code) (cd : Cd), tr P c = some cd → bndC ok N cd = true → ∀ (st : St) (Q : Ex → St → Prop) (a : Act) (w : World), W (Has P) D cd st Q → StR w0 I0 N st a w → c.wp P (CPost w0 I0 N Q) a w := by
  intro c
  induction c with
  | skip => intro cd ht hb st Q a w hW hs; simp [tr] at ht; subst ht; exact wp_skip ⟨.nrm, st, trivial, hW, hs⟩
  | exit id => intro cd ht hb st Q a w hW hs; simp [tr] at ht; subst ht; exact wp_exit ⟨.exit id, st, rfl, hW, hs⟩
  | ret => intro cd ht hb st Q a w hW hs; simp [tr] at ht; subst ht; exact wp_ret ⟨.ret, st, trivial, hW, hs⟩
  | region id ops dr =>
    intro cd ht hb st Q a w hW hs
    simp only [tr, Option.map_eq_some_iff] at ht
    obtain ⟨ois, hois, rfl⟩ := ht
    simp only [bndC, Bool.and_eq_true, Bool.or_eq_true, Bool.not_eq_true'] at hb
    obtain ⟨hb, hok⟩ := hb
    cases dr with
    | true =>
      refine wp_mono (hD w0 I0 N id ops ois st (Q .nrm) a w hois hb (hok.resolve_left (by simp)) hW hs) ?_
      rintro e a' w' ⟨ex, st', h1, ⟨rfl, h2⟩, h3⟩
      exact ⟨.nrm, st', h1, h2, h3⟩
    | false =>
      have := ops_sound (Q := CPost w0 I0 N Q) ops.toList ois 0 (fun i => by simp) hois hb st (Q .nrm) a w hW hs (fun st' a' w' h1 h2 => ⟨.nrm, st', trivial, h1, h2⟩)
      refine wp_region ?_
      simpa using this
  | seq x y ihx ihy =>
    intro cd ht hb st Q a w hW hs
    simp only [tr] at ht
    split at ht
    · rename_i cx cy h1 h2
      cases ht
      simp only [bndC, Bool.and_eq_true] at hb
      refine wp_seq (wp_mono (ihx cx h1 hb.1 st _ a w hW hs) ?_)
      rintro e a' w' ⟨ex, st', he, hq, hs'⟩
      cases ex with
      | nrm => cases e <;> simp [exR] at he; exact ihy cy h2 hb.2 st' Q a' w' hq hs'
      | exit i => cases e <;> simp [exR] at he; subst he; exact ⟨.exit _, st', rfl, hq, hs'⟩
      | ret => cases e <;> simp [exR] at he; exact ⟨.ret, st', trivial, hq, hs'⟩
    · cases ht
  | cond c x y ihx ihy =>
    intro cd ht hb st Q a w hW hs
    simp only [tr] at ht
    split at ht
    · rename_i c' cx cy h0 h1 h2
      cases ht
      simp only [bndC, Bool.and_eq_true] at hb
      simp only [W] at hW
      split at hW
      · rename_i t hct
        obtain ⟨s, I, k1, k2, k3, k4, krest⟩ := id hs
        have hc := hop_of k3 c c' h0
        rw [hct] at hc
        have hc' := hc.inv_t
        generalize hce : a.eval c = cv at hc'
        cases hc'
        refine wp_cond hce ?_
        cases t
        · exact ihy cy h2 hb.2 st Q a w hW hs
        · exact ihx cx h1 hb.1 st Q a w hW hs
      · exact hW.elim
    · cases ht
  | block id b ih =>
    intro cd ht hb st Q a w hW hs
    simp only [tr, Option.map_eq_some_iff] at ht
    obtain ⟨cb, hcb, rfl⟩ := ht
    refine wp_block (wp_mono (ih cb hcb hb st _ a w hW hs) ?_)
    rintro e a' w' ⟨ex, st', he, hq, hs'⟩
    cases ex with
    | nrm => cases e <;> simp [exR] at he; exact ⟨.nrm, st', trivial, hq, hs'⟩
    | exit i =>
      cases e <;> simp [exR] at he; subst he
      simp only [blkW] at hq
      simp only [Exit.inBlock]
      split at hq
      · rename_i hbq; rw [if_pos (beq_yes hbq)]; exact ⟨.nrm, st', trivial, hq, hs'⟩
      · rename_i i' hbq
        rw [if_neg (fun e => by subst e; simp at hbq)]; exact ⟨.exit _, st', rfl, hq, hs'⟩
    | ret => cases e <;> simp [exR] at he; exact ⟨.ret, st', trivial, hq, hs'⟩
  | loop b ih =>
    intro cd ht hb st Q a w hW hs
    simp only [tr, Option.map_eq_some_iff] at ht
    obtain ⟨cb, hcb, rfl⟩ := ht
    simp only [W, loopW] at hW
    obtain ⟨Inv, ⟨p, m, s0, hle, h0⟩, hround⟩ := hW
    refine wp_loop_falls (fun m a w => ∃ s, Inv m s ∧ StR w0 I0 N s a w) ?_ m a w ⟨s0, h0, hs.le hle⟩
    rintro m a w ⟨s, hI, hs⟩
    refine wp_mono (ih cb hcb hb s _ a w (hround m s hI) hs) ?_
    rintro e a' w' ⟨ex, st', he, hq, hs'⟩
    cases ex with
    | nrm =>
      cases e <;> simp [exR] at he
      obtain ⟨p, m', s'', hlt, hle, hI'⟩ := hq
      exact ⟨m', hlt, s'', hI', hs'.le hle⟩
    | exit i => cases e <;> simp [exR] at he; subst he; exact ⟨.exit _, st', rfl, hq, hs'⟩
    | ret => cases e <;> simp [exR] at he; exact ⟨.ret, st', trivial, hq, hs'⟩
  | _ => intro cd ht; simp [tr] at ht

theorem look_par : ∀ (xs : List T) (k n : Nat) (v : V), look (par k xs) n = some v → ∃ i x, n = k + i ∧ xs[i]? = some x ∧ v = .t x
  | [], k, n, v, h => by simp [par, look] at h
  | x :: r, k, n, v, h => by
    simp only [par, look_cons] at h
    split at h
    · rename_i e; cases h; exact ⟨0, x, by omega, rfl, rfl⟩
    · obtain ⟨i, y, h1, h2, h3⟩ := look_par r (k + 1) n v h
      exact ⟨i + 1, y, by omega, by simpa using h2, h3⟩

/-- One result, as the model reads it. -/
def resOne (tmps : Array Value) : ResultVar → Sem Value
  | .tmp t => pure (tmps.getD t undef)
  | .cell a t => do loadVar t (← asAddr (tmps.getD a undef))

theorem res_rel {st : St} {a : Act} {w : World} {s : Nat → Option Loc} {I : Nat → Prop} (htm : TmOk s I w st.tm a) (hr : Rep s I w (look st.hp)) : ∀ (l : List ResultVar) (rs : List RV) (vs : List V), trRes P l = some rs → rvVs st rs = some vs →
    ∃ us : List Value, (l.mapM (resOne a.tmps)).run P w = .ok us w ∧ us.length = vs.length ∧ ∀ (i : Nat) (v : V), vs[i]? = some v → ∃ u, us[i]? = some u ∧ RelV s I w v u
  | [], rs, vs, h1, h2 => by
    simp [trRes] at h1; subst h1; simp [rvVs] at h2; subst h2
    exact ⟨[], by simp, rfl, fun i v h => by simp at h⟩
  | x :: r, rs, vs, h1, h2 => by
    have hget : ∀ t, RelV s I w (get st.tm t) (a.tmps.getD t undef) := fun t => by
      have := hop_of htm (.tmp t) (.t t) rfl
      simpa [opd, Act.eval] using this
    have step : ∀ (rv : RV) (rs' : List RV) (v : V), rs = rv :: rs' → trRes P r = some rs' → rvV st rv = some v → (∃ u, (resOne a.tmps x).run P w = .ok u w ∧ RelV s I w v u) →
        ∃ us : List Value, ((x :: r).mapM (resOne a.tmps)).run P w = .ok us w ∧ us.length = vs.length ∧ ∀ (i : Nat) (v : V), vs[i]? = some v → ∃ u, us[i]? = some u ∧ RelV s I w v u := by
      rintro rv rs' v rfl hrs hv ⟨u, hu, hrel⟩
      simp only [rvVs, hv] at h2
      split at h2
      · rename_i v' vs' e1 e2
        cases e1; cases h2
        obtain ⟨us, k1, k2, k3⟩ := res_rel htm hr r rs' vs' hrs e2
        refine ⟨u :: us, ?_, by simp [k2], fun i y hy => ?_⟩
        · simp only [List.mapM_cons, Sem.run_bind, hu, Result.andThen_ok, k1, Sem.run_pure]
        · cases i with
          | zero => simp at hy; subst hy; exact ⟨u, rfl, hrel⟩
          | succ i => simpa using k3 i y (by simpa using hy)
      · cases h2
    cases x with
    | tmp t =>
      simp only [trRes, Option.map_eq_some_iff] at h1
      obtain ⟨rs', hrs, rfl⟩ := h1
      exact step _ _ _ rfl hrs rfl ⟨_, rfl, hget t⟩
    | cell x t =>
      simp only [trRes] at h1
      split at h1
      · rename_i g n rs' hg hn hrs
        cases h1
        cases hv : rvV st (.cell x g n) with
        | none => simp [rvVs, hv] at h2
        | some v =>
          refine step _ _ v rfl hrs hv ?_
          simp only [rvV] at hv
          obtain ⟨u, k1, k2⟩ := sim_ld (P := P) hg hn hv (hget x) hr
          refine ⟨u, ?_, k2⟩
          have hp : ∃ ad, a.tmps.getD x undef = .pointer (some ad) := by
            have := hget x
            generalize get st.tm x = X at hv this
            generalize a.tmps.getD x undef = xv at this
            cases this with
            | t y _ hy => cases hy <;> simp [evLd] at hv; exact ⟨_, rfl⟩
            | ptr => exact ⟨_, rfl⟩
            | _ => simp [evLd] at hv
          obtain ⟨ad, had⟩ := hp
          rw [had] at k1
          simp only [resOne, had]
          simpa [Instr.loadAt, Instr.sureAddr, asAddr] using k1
      · cases h1

def tupOf : List Value → Value
  | [u] => u
  | us => .tuple us.toArray

theorem results_mapM (fn : Func) (tmps : Array Value) {w : World} {us : List Value} (h : (fn.results.toList.mapM (resOne tmps)).run P w = .ok us w) :
    (results fn tmps).run P w = .ok (tupOf us) w := by
  have e : results fn tmps = (do let vs ← fn.results.mapM (resOne tmps); pure (if h : vs.size = 1 then vs[0] else .tuple vs)) := by
    unfold results
    congr 2
  rw [e, Array.mapM_eq_mapM_toList]
  simp only [Sem.run_bind, map_eq_pure_bind, bind_assoc, pure_bind, h, Result.andThen_ok]
  match us with
  | [] => simp [tupOf]
  | [u] => simp [tupOf]
  | u :: v :: r => simp [tupOf]

theorem ret_rel {fn : Func} {rs : List RV} (hrs : trRes P fn.results.toList = some rs) {st : St} {a : Act} {w' : World} {s : Nat → Option Loc} {J : Nat → Prop} {v : V} (h3 : TmOk s J w' st.tm a) (h4 : Rep s J w' (look st.hp)) (hv : retV rs st = some v) :
    ∃ u, (results fn a.tmps).run P w' = .ok u w' ∧ RelV s J w' v u := by
  unfold retV at hv
  cases hvs : rvVs st rs with
  | none => simp [hvs] at hv
  | some vs =>
    rw [hvs] at hv
    obtain ⟨us', k1, k2, k3⟩ := res_rel (P := P) h3 h4 fn.results.toList rs vs hrs hvs
    have hrun := results_mapM fn a.tmps k1
    refine ⟨_, hrun, ?_⟩
    have tupc : v = .tup vs → (∀ u, us' ≠ [u]) → RelV s J w' v (tupOf us') := by
      rintro rfl hne
      have e : tupOf us' = .tuple us'.toArray := by
        match us', hne with
        | [], _ => rfl
        | [u], hne => exact (hne u rfl).elim
        | _ :: _ :: _, _ => rfl
      rw [e]
      refine .tup vs us'.toArray (fun i => us'.getD i undef) (by simpa using k2) (fun i y hy => ?_) (fun i y hy => ?_)
      all_goals
        obtain ⟨u, p, q⟩ := k3 i y hy
        simp [List.getD, p]
      exact q
    clear k1 hrun
    match vs, us', k2 with
    | [y], [u], _ =>
      simp at hv; subst hv
      obtain ⟨u', p, q⟩ := k3 0 _ rfl
      simp at p; subst p; exact q
    | [], us', hl => exact tupc (by simpa using hv.symm) (fun u e => by subst e; simp at hl)
    | y :: z :: r, us', hl => exact tupc (by simpa using hv.symm) (fun u e => by subst e; simp at hl)

theorem look_parV : ∀ (xs : List V) (k n : Nat) (v : V), look (parV k xs) n = some v → ∃ i, n = k + i ∧ xs[i]? = some v
  | [], k, n, v, h => by simp [parV, look] at h
  | x :: r, k, n, v, h => by
    simp only [parV, look_cons] at h
    split at h
    · rename_i e; cases h; exact ⟨0, by omega, rfl⟩
    · obtain ⟨i, h1, h2⟩ := look_parV r (k + 1) n v h
      exact ⟨i + 1, by omega, by simpa using h2⟩

/-- The contract of a function that is handed memory, out of what its body owes. -/
theorem eff_of_W {ok : List OpI → Bool} {D : List OpI → St → (St → Prop) → Prop} (hD : DOk P ok D) {f : FuncId} {fn : Func} {c : Code} {cd : Cd} {rs : List RV} {args : List V} {hp hp' : Hp} {r : V} (hf : P.funcs[f]? = some fn) (hname : (fn.name == "runtime.NumGoroutine") = false) (hbody : fn.body = some c) (htr : tr P c = some cd) (hb : bndC ok fn.ntmps cd = true)
    (hrs : trRes P fn.results.toList = some rs) (hargs : args.length ≤ fn.ntmps) (hW : W (Has P) D cd ⟨parV 0 args, hp⟩ (RetE rs r hp')) : Eff P f args hp r hp' := by
  refine ⟨⟨fn, hf, hname, by rw [hbody]; rfl⟩, fun s I w us hrep hrel => ?_⟩
  refine calls_of_wp hf hbody ?_
  have hst : StR ⟨w, s, Owned s (look hp)⟩ I fn.ntmps ⟨parV 0 args, hp⟩ { tmps := us ++ Array.replicate (fn.ntmps - us.size) undef, defers := [] } w := by
    refine ⟨s, I, ?_, rfl, fun t v hv => ?_, hrep, ⟨rfl, rfl, rfl, Nat.le_refl _, fun _ _ _ => rfl⟩, fun n L hn hL => .inr ⟨n, L, hn, hL, rfl⟩, fun b h => h, fun b h => .inl h, fun _ _ => rfl⟩
    · rw [Array.size_append, Array.size_replicate, hrel.1]; omega
    · obtain ⟨i, rfl, hx⟩ := look_parV args 0 t v hv
      obtain ⟨u, hu, hr⟩ := hrel.2 i v hx
      have hlt : i < us.size := (Array.getElem?_eq_some_iff.1 hu).1
      have : (us ++ Array.replicate (fn.ntmps - us.size) undef).getD (0 + i) undef = u := by
        rw [Array.getD_eq_getD_getElem?, Nat.zero_add, Array.getElem?_append, if_pos hlt, hu]; rfl
      rw [this]; exact hr
  refine wp_mono (W_sound hD c cd htr hb _ (RetE rs r hp') _ w hW hst) ?_
  rintro e a w' ⟨ex, st, he, ⟨hex, v, p, hv, hle, hall, hallH⟩, hs⟩
  have fin : a.defers = [] ∧ ∃ u, (results fn a.tmps).run P w' = .ok u w' ∧ ∃ v s' I', Ending.returned u = .returned v ∧ RelV s' I' w' r v ∧ Rep s' I' w' (look hp') ∧ Kept ⟨w, s, Owned s (look hp)⟩ w' ∧ (∀ b, I b → I' b) ∧
      (∀ b, I' b → I b ∨ Base.New ⟨w, s, Owned s (look hp)⟩ b) ∧ (∀ n L, look hp' n ≠ none → s' n = some L → Base.New ⟨w, s, Owned s (look hp)⟩ L.b) ∧
      (∀ n, far ≤ n → s' n = s n) ∧ ∀ n, n < far → look hp' n = none → s' n = none := by
    obtain ⟨s1, J, h1, h2, h3, h4, h5, h6, h7, h8, h9⟩ := hs
    refine ⟨h2, ?_⟩
    obtain ⟨u, hrun, hrv⟩ := ret_rel hrs h3 h4 hv
    refine ⟨u, hrun, u, ?_⟩
    have hfake : StR ⟨w, s, Owned s (look hp)⟩ I 1 ⟨[(0, v)], st.hp⟩ { tmps := #[u], defers := [] } w' := by
      refine ⟨s1, J, rfl, rfl, fun t y hy => ?_, h4, h5, h6, h7, h8, h9⟩
      rw [look_cons] at hy
      split at hy
      · rename_i e; cases hy; subst e; exact hrv
      · simp [look] at hy
    obtain ⟨s2, I2, -, -, k3, k4, k5, k6, k7, k8, k9⟩ := hfake.le hle
    have hr2 : RelV s2 I2 w' r u := k3 0 r rfl
    have okdef : ∀ n, okN hp' n = true → (if far ≤ n then s2 n else if look hp' n = none then none else s2 n) = s2 n := by
      intro n hn
      by_cases hf : far ≤ n
      · simp [hf]
      · rw [if_neg hf, if_neg]
        intro hno
        unfold okN at hn
        simp only [Bool.or_eq_true, List.any_eq_true] at hn
        rcases hn with hn | ⟨⟨m, o⟩, hm, hn⟩
        · exact hf (Nat.le_of_ble_eq_true hn)
        · obtain ⟨y, hy⟩ := look_mem hm
          have : m = n := beq_yes hn
          subst this
          rw [hy] at hno; cases hno
    have okIn : ∀ n, look hp' n ≠ none → (if far ≤ n then s2 n else if look hp' n = none then none else s2 n) = s2 n := by
      intro n hn
      by_cases hf : far ≤ n
      · simp [hf]
      · rw [if_neg hf, if_neg hn]
    refine ⟨fun n => if far ≤ n then s2 n else if look hp' n = none then none else s2 n, I2, rfl, hr2.prune okdef hall, ⟨fun n o L hn hL => ?_, fun n m L M hn hm hL hM => ?_, k4.old⟩, k5, k7, k8, fun n L hn hL => ?_, fun n hn => ?_, fun n hn hno => ?_⟩
    · simp only [okIn n (by simp [hn])] at hL
      obtain ⟨a1, a2⟩ := k4.own n o L hn hL
      exact ⟨a1.prune okdef (hallH _ (look_nodup hn)), a2⟩
    · simp only [okIn n hn] at hL
      simp only [okIn m hm] at hM
      exact k4.inj n m L M hn hm hL hM
    · simp only [okIn n hn] at hL
      exact k6 n L hn hL
    · simp only [if_pos hn]; exact k9 n hn
    · simp only [if_neg (show ¬ far ≤ n by omega), hno, if_true]
  cases ex with
  | exit i => exact hex.elim
  | nrm => cases e <;> simp [exR] at he; exact fin
  | ret => cases e <;> simp [exR] at he; exact fin

/-- A function's contract, out of what its body owes. -/
theorem pure_of_W {ok : List OpI → Bool} {D : List OpI → St → (St → Prop) → Prop} (hD : DOk P ok D) {f : FuncId} {fn : Func} {c : Code} {cd : Cd} {rs : List RV} {args : List T} {r : T} (hf : P.funcs[f]? = some fn) (hname : (fn.name == "runtime.NumGoroutine") = false) (hbody : fn.body = some c) (htr : tr P c = some cd) (hb : bndC ok fn.ntmps cd = true)
    (hrs : trRes P fn.results.toList = some rs) (hargs : args.length ≤ fn.ntmps) (hW : W (Has P) D cd ⟨par 0 args, []⟩ (Ret rs r)) : Pure P f args r := by
  refine ⟨⟨fn, hf, hname, by rw [hbody]; rfl⟩, fun I w us hI hrel => ?_⟩
  refine calls_of_wp hf hbody ?_
  have hst : StR ⟨w, fun _ => none, fun _ => False⟩ I fn.ntmps ⟨par 0 args, []⟩ { tmps := us ++ Array.replicate (fn.ntmps - us.size) undef, defers := [] } w := by
    refine ⟨fun _ => none, I, ?_, rfl, fun t v hv => ?_, ⟨fun n o L hn => by simp [look] at hn, fun n m L M hn => by simp [look] at hn, hI⟩, ⟨rfl, rfl, rfl, Nat.le_refl _, fun _ _ _ => rfl⟩, fun n L hn => by simp [look] at hn, fun b h => h, fun b h => .inl h, fun _ _ => rfl⟩
    · rw [Array.size_append, Array.size_replicate, hrel.1]; omega
    · obtain ⟨i, x, rfl, hx, rfl⟩ := look_par args 0 t v hv
      obtain ⟨u, hu, hr⟩ := hrel.2 i x hx
      have hlt : i < us.size := (Array.getElem?_eq_some_iff.1 hu).1
      have : (us ++ Array.replicate (fn.ntmps - us.size) undef).getD (0 + i) undef = u := by
        rw [Array.getD_eq_getD_getElem?, Nat.zero_add, Array.getElem?_append, if_pos hlt, hu]; rfl
      rw [this]; exact .t _ _ hr
  refine wp_mono (W_sound hD c cd htr hb _ (Ret rs r) _ w hW hst) ?_
  rintro e a w' ⟨ex, st, he, ⟨hex, v, x, hv, hcl, hle⟩, s, J, h1, h2, h3, h4, h5, h6, h7, h8, h9⟩
  have fin : a.defers = [] ∧ ∃ u, (results fn a.tmps).run P w' = .ok u w' ∧ ∃ v, Ending.returned u = .returned v ∧ Below w.heap.size w w' ∧ RelT (fun b => I b ∨ (w.heap.size ≤ b ∧ b < w'.heap.size)) w' r v := by
    refine ⟨h2, ?_⟩
    obtain ⟨u, hrun, hrv⟩ := ret_rel hrs h3 h4 hv
    refine ⟨_, hrun, _, rfl, ⟨h5.os, h5.tape, h5.output, h5.size, fun k hk => h5.block k hk (fun q => q)⟩, ?_⟩
    have := ((clo_rel h4 40).1 v x _ hcl hrv).le hle
    refine this.mono (fun b hb => ?_) (fun _ _ => rfl)
    rcases hb with q | ⟨n, L, hn, hL, rfl⟩
    · rcases h8 b q with z | z
      · exact .inl z
      · exact .inr ⟨z.elim id (fun q => q.elim), h4.old b q⟩
    · obtain ⟨ob, hob⟩ := Option.ne_none_iff_exists'.1 hn
      exact .inr ⟨(h6 n L hn hL).elim id (fun q => q.elim), h4.lt hob hL⟩
  cases ex with
  | exit i => exact hex.elim
  | nrm => cases e <;> simp [exR] at he; exact fin
  | ret => cases e <;> simp [exR] at he; exact fin

end

end Go.Eng
