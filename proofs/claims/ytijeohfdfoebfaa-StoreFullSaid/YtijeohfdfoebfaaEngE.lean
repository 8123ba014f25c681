/-
An engine for proofs about Go functions, part E: one operation of the program, as the engine has it and as the model has it.
-/
import Derived.Test.YtijeohfdfoebfaaEngD
set_option linter.all false
namespace Go.Eng
open Go.RowKit
set_option linter.unusedSimpArgs false

/-- What an operation comes to. -/
def Does (P : Program) (o : Oper) (a : Act) (w : World) (s : Nat → Option Loc) (I : Nat → Prop) (h : Lk) (d : Nat) (v : V) (ef : Ef) : Prop :=
  ∃ nx u s' w', (execOp a.eval o).run P w = .ok nx w' ∧ (nx = .value u ∨ (nx = .skip ∧ u = undef)) ∧ FxOk s I w h d ef s' w' ∧ RelV s' I w' v u

section
variable {P : Program} {o : Oper} {a : Act} {w : World} {s : Nat → Option Loc} {I : Nat → Prop} {h : Lk} {d : Nat} {v : V} {ef : Ef} {tm : Tm}

theorem Does.value {u : Value} (hr : (execOp a.eval o).run P w = .ok (.value u) w) (hv : RelV s I w v u) : Does P o a w s I h d v .non :=
  ⟨_, u, s, w, hr, .inl rfl, ⟨rfl, rfl⟩, hv⟩

theorem map_non {x : Option V} (he : x.map (·, Ef.non) = some (v, ef)) : x = some v ∧ ef = .non := by
  cases x with
  | none => simp at he
  | some y => simp at he; exact ⟨by rw [he.1], he.2.symm⟩

theorem map_nonT {x : Option T} (he : x.map (V.t ·, Ef.non) = some (v, ef)) : ∃ y, x = some y ∧ v = .t y ∧ ef = .non := by
  cases x with
  | none => simp at he
  | some y => simp at he; exact ⟨y, rfl, he.1.symm, he.2.symm⟩

theorem bound_rel (hop : ∀ X Y, trO X = some Y → RelV s I w (opd tm Y) (a.eval X)) {lo : Option Operand} {lo' : Option O} {l : Option Int} (h1 : (match lo with | none => some none | some o => (trO o).map some) = some lo') (h2 : bound tm lo' = some l) : BRel l (lo.map a.eval) := by
  cases lo with
  | none => simp at h1; subst h1; simp [bound] at h2; subst h2; exact .inl ⟨rfl, rfl⟩
  | some x =>
    simp only [Option.map_eq_some_iff] at h1
    obtain ⟨y, hy, rfl⟩ := h1
    simp only [bound, Option.map_eq_some_iff] at h2
    obtain ⟨n, hn, rfl⟩ := h2
    obtain ⟨k, hk⟩ := num_rel hn (hop x y hy)
    exact .inr ⟨k, n, by simp [hk], rfl⟩

theorem vT_nilp {x : Value} (h : vT x = some .nilp) : x = .pointer none := by
  unfold vT at h
  split at h
  · simp at h
  · unfold vT1 at h; split at h <;> simp at h; rfl
theorem vT_nils {x : Value} (h : vT x = some .nils) : x = .slice none 0 0 := by
  unfold vT at h
  split at h
  · simp at h
  · unfold vT1 at h; split at h <;> simp at h; rfl
theorem vT_nilf {x : Value} (h : vT x = some .nilf) : x = .nilFunc := by
  unfold vT at h
  split at h
  · simp at h
  · unfold vT1 at h; split at h <;> simp at h; rfl

theorem trO_const {x : Operand} {y : T} (h : trO x = some (.c y)) : (∃ c, x = .const c ∧ vT c = some y) ∨ ∃ f, x = .func f ∧ y = .fn f [] := by
  cases x with
  | tmp t => simp [trO] at h
  | const c => simp [trO] at h; exact .inl ⟨c, rfl, h⟩
  | global g => simp [trO] at h
  | func f => simp [trO] at h; exact .inr ⟨f, rfl, h.symm⟩

theorem eval_nilp {x : Operand} (h : trO x = some (.c .nilp)) : a.eval x = .pointer none := by
  rcases trO_const h with ⟨c, rfl, hc⟩ | ⟨f, rfl, hf⟩
  · exact vT_nilp hc
  · cases hf
theorem eval_nils {x : Operand} (h : trO x = some (.c .nils)) : a.eval x = .slice none 0 0 := by
  rcases trO_const h with ⟨c, rfl, hc⟩ | ⟨f, rfl, hf⟩
  · exact vT_nils hc
  · cases hf
theorem eval_nilf {x : Operand} (h : trO x = some (.c .nilf)) : a.eval x = .nilFunc := by
  rcases trO_const h with ⟨c, rfl, hc⟩ | ⟨f, rfl, hf⟩
  · exact vT_nilf hc
  · cases hf

theorem trOs_map {xs : List Operand} {ys : List O} (hop : ∀ X Y, trO X = some Y → RelV s I w (opd tm Y) (a.eval X)) (h : trOs xs = some ys) : ∃ f : Nat → Value, (xs.map a.eval).toArray.size = (ys.map (opd tm)).length ∧
    (∀ (i : Nat) (x : V), (ys.map (opd tm))[i]? = some x → (xs.map a.eval).toArray[i]? = some (f i)) ∧ ∀ (i : Nat) (x : V), (ys.map (opd tm))[i]? = some x → RelV s I w x (f i) := by
  obtain ⟨h1, h2⟩ := trOs_get hop h
  refine ⟨fun i => (xs.map a.eval).getD i undef, by simp [h1], fun i x hx => ?_, fun i x hx => ?_⟩
  all_goals
    rw [List.getElem?_map] at hx
    obtain ⟨Y, hY, rfl⟩ := Option.map_eq_some_iff.1 hx
    obtain ⟨X, hX, hr⟩ := h2 i Y hY
    simp [List.getD, hX]
  exact hr

theorem sim {i : Ins} (ht : trOp P o.op = some i) (hev : ev i d tm h = some (v, ef)) (hop : ∀ X Y, trO X = some Y → RelV s I w (opd tm Y) (a.eval X)) (r : Rep s I w h) : Does P o a w s I h d v ef := by
  cases ho : o.op with
  | move x =>
    rw [ho] at ht; simp only [trOp, Option.map_eq_some_iff] at ht
    obtain ⟨y, hy, rfl⟩ := ht
    simp [ev] at hev; obtain ⟨rfl, rfl⟩ := hev
    exact .value (by simp [execOp, ho]) (hop x y hy)
  | assign x =>
    rw [ho] at ht; simp only [trOp, Option.map_eq_some_iff] at ht
    obtain ⟨y, hy, rfl⟩ := ht
    simp [ev] at hev; obtain ⟨rfl, rfl⟩ := hev
    exact .value (by simp [execOp, ho]) (hop x y hy)
  | pick c x y =>
    rw [ho] at ht; simp only [trOp] at ht
    split at ht
    · rename_i c' x' y' h1 h2 h3
      cases ht
      have hc := hop c c' h1
      simp only [ev] at hev
      split at hev
      · rename_i t hct
        rw [hct] at hc
        cases hc with
        | t _ _ hb =>
          generalize hcv : a.eval c = cv at hb
          cases hb with
          | bool _ =>
            simp at hev
            obtain ⟨rfl, rfl⟩ := hev
            cases t
            · exact .value (u := a.eval y) (by simp [execOp, ho, hcv, asBool]) (hop y y' h3)
            · exact .value (u := a.eval x) (by simp [execOp, ho, hcv, asBool]) (hop x x' h2)
      · cases hev
    · cases ht
  | alloc t =>
    rw [ho] at ht; simp only [trOp, Option.map_eq_some_iff] at ht
    obtain ⟨zs, hz, rfl⟩ := ht
    simp [ev] at hev; obtain ⟨rfl, rfl⟩ := hev
    obtain ⟨u, s', w', h1, h2, h3⟩ := sim_new (P := P) r d hz
    exact ⟨.value u, u, s', w', by simp [execOp, ho, h1], .inl rfl, h2, h3⟩
  | box t x =>
    rw [ho] at ht; simp only [trOp] at ht
    split at ht
    · rename_i g n x' h1 h2 h3
      cases ht
      simp only [ev, Option.map_eq_some_iff] at hev
      obtain ⟨ob, hob, he⟩ := hev
      cases he
      obtain ⟨u, s', w', k1, k2, k3⟩ := sim_box (P := P) (t := t) r d hob (hop x x' h3)
      exact ⟨.value u, u, s', w', by simp [execOp, ho, k1], .inl rfl, k2, k3⟩
    · cases ht
  | load t x =>
    rw [ho] at ht; simp only [trOp] at ht
    split at ht
    · rename_i g n x' h1 h2 h3
      cases ht
      simp only [ev] at hev
      obtain ⟨he, rfl⟩ := map_non hev
      obtain ⟨u, k1, k2⟩ := sim_ld (P := P) h1 h2 he (hop x x' h3) r
      exact .value (by simp [execOp, ho, k1]) k2
    · cases ht
  | store t x y =>
    rw [ho] at ht; simp only [trOp] at ht
    split at ht
    · rename_i n x' y' h1 h2 h3
      cases ht
      simp only [ev, Option.map_eq_some_iff] at hev
      obtain ⟨e', he, heq⟩ := hev
      cases heq
      obtain ⟨s', w', k1, k2⟩ := sim_st (P := P) r d h1 he (hop x x' h2) (hop y y' h3)
      exact ⟨.skip, undef, s', w', by simp [execOp, ho, k1], .inr ⟨rfl, rfl⟩, k2, .und _⟩
    · cases ht
  | fieldAddr t x f =>
    rw [ho] at ht; simp only [trOp] at ht
    split at ht
    · rename_i fs hfs
      split at ht
      · rename_i fl x' h1 h2
        split at ht
        · rename_i k hk
          cases ht
          simp only [ev] at hev
          have : ∃ vv, (match opd tm x' with | .ptr m i j => some (V.ptr m i (j + fl.offset)) | .t (.ref z es i j) => some (.t (.ref z es i (j + fl.offset))) | _ => none) = some vv ∧ v = vv ∧ ef = .non := by
            split at hev <;> simp at hev <;> obtain ⟨rfl, rfl⟩ := hev <;> exact ⟨_, by simp [*], rfl, rfl⟩
          obtain ⟨vv, hvv, rfl, rfl⟩ := this
          obtain ⟨u, k1, k2⟩ := sim_fa (P := P) hfs h1 hk hvv (hop x x' h2)
          exact .value (by simp [execOp, ho, k1]) k2
        · cases ht
      · cases ht
    · cases ht
  | indexAddr t x i' =>
    rw [ho] at ht; simp only [trOp] at ht
    split at ht
    · rename_i e he
      split at ht
      · rename_i z x' i'' h1 h2 h3
        cases ht
        simp only [ev] at hev
        split at hev
        · rename_i k hk
          obtain ⟨hv, rfl⟩ := map_non hev
          obtain ⟨u, k1, k2⟩ := sim_ia (P := P) he h1 hk (hop i' i'' h3) hv (hop x x' h2)
          exact .value (by simp [execOp, ho, k1]) k2
        · cases hev
      · cases ht
    · cases ht
  | index t x i' =>
    rw [ho] at ht; simp only [trOp] at ht
    split at ht
    · rename_i he
      split at ht
      · rename_i x' i'' h2 h3
        cases ht
        simp only [ev] at hev
        split at hev
        · rename_i b k hb hk
          have hx := hop x x' h2
          rw [hb] at hx
          generalize hxe : a.eval x = xv at hx
          cases hx with
          | t _ _ hx =>
            cases hx
            split at hev
            · rename_i h0
              split at hev
              · rename_i c hc
                cases hev
                have := sim_ixs (P := P) he hk (hop i' i'' h3) h0 hc
                exact .value (by simp [execOp, ho, hxe, this]) (.t _ _ (.int _ _))
              · cases hev
            · cases hev
        · cases hev
      · cases ht
    · cases ht
  | binOp op t x y yt =>
    rw [ho] at ht; simp only [trOp] at ht
    split at ht
    · rename_i k x' y' hu h1 h2
      cases ht
      simp only [ev] at hev
      split at hev
      · rename_i A B hA hB
        obtain ⟨c, hc, rfl, rfl⟩ := map_nonT hev
        have hx := hop x x' h1; have hy := hop y y' h2
        rw [hA] at hx; rw [hB] at hy
        obtain ⟨u, k1, k2⟩ := sim_bin (P := P) (t := t) hc hx.inv_t hy.inv_t x y
        exact .value (by simp only [execOp, ho]; rw [Sem.run_bind, k1]; rfl) (.t _ _ k2)
      · cases hev
    · rename_i x' y' hu h1 h2
      cases ht
      simp only [ev] at hev
      split at hev
      · rename_i A B hA hB
        obtain ⟨c, hc, rfl, rfl⟩ := map_nonT hev
        have hx := hop x x' h1; have hy := hop y y' h2
        rw [hA] at hx; rw [hB] at hy
        obtain ⟨u, k1, k2⟩ := sim_bin (P := P) (t := t) hc hx.inv_t hy.inv_t x y
        exact .value (by simp only [execOp, ho]; rw [Sem.run_bind, k1]; rfl) (.t _ _ k2)
      · cases hev
    · rename_i x' y' hu h1 h2
      have hb : ∀ neg : Bool, i = .beq neg x' y' → op = (if neg then .neq else .eql) → Does P o a w s I h d v ef := by
        rintro neg rfl hopn
        simp only [ev] at hev
        split at hev
        · rename_i A B hA hB
          cases hev
          have hx := hop x x' h1; have hy := hop y y' h2
          rw [hA] at hx; rw [hB] at hy
          have hx' := hx.inv_t; have hy' := hy.inv_t
          generalize hxe : a.eval x = xv at hx'
          generalize hye : a.eval y = yv at hy'
          cases hx'; cases hy'
          have k1 := sim_beq (P := P) (w := w) hu neg A B x y
          rw [← hopn] at k1
          exact .value (by simp only [execOp, ho, hxe, hye]; rw [Sem.run_bind, k1]; rfl) (.t _ _ (.bool _))
        · cases hev
      cases op <;> simp at ht
      · exact hb false ht.symm rfl
      · exact hb true ht.symm rfl
    · rename_i fs x' y' hu h1 h2
      split at ht
      · rename_i ks hks
        split at ht
        · rename_i hok
          simp only [Bool.and_eq_true, Bool.not_eq_true'] at hok
          have hb : ∀ neg : Bool, i = .eqs neg ks x' y' → op = (if neg then .neq else .eql) → Does P o a w s I h d v ef := by
            rintro neg rfl hopn
            simp only [ev] at hev
            split at hev
            · rename_i A B hA hB
              simp only [Option.map_eq_some_iff] at hev
              obtain ⟨q, hq, heq⟩ := hev
              cases heq
              have hx := hop x x' h1; have hy := hop y y' h2
              rw [hA] at hx; rw [hB] at hy
              have k1 := sim_eqs (P := P) neg hu hks hok.1 hok.2 hq hx.inv_t hy.inv_t x y
              rw [← hopn] at k1
              exact .value (by simp only [execOp, ho]; rw [Sem.run_bind, k1]; rfl) (.t _ _ (.bool _))
            · cases hev
          cases op <;> simp at ht
          · exact hb false ht.symm rfl
          · exact hb true ht.symm rfl
        · cases ht
      · cases ht
    · rename_i e x' hu h1 h2
      have hy := eval_nilp (a := a) h2
      have hb : ∀ neg : Bool, i = .isnil neg 0 x' → op = (if neg then .neq else .eql) → Does P o a w s I h d v ef := by
        rintro neg rfl hopn
        simp only [ev, Option.map_eq_some_iff] at hev
        obtain ⟨q, hq, heq⟩ := hev
        cases heq
        have k1 := sim_isnil (P := P) (t := t) neg (.inl ⟨rfl, ⟨e, hu⟩, hy⟩) hq (hop x x' h1) x y
        rw [← hopn] at k1
        exact .value (by simp only [execOp, ho]; rw [Sem.run_bind, k1]; rfl) (.t _ _ (.bool _))
      cases op <;> simp at ht
      · exact hb false ht.symm rfl
      · exact hb true ht.symm rfl
    · rename_i e x' hu h1 h2
      have hy := eval_nils (a := a) h2
      have hb : ∀ neg : Bool, i = .isnil neg 1 x' → op = (if neg then .neq else .eql) → Does P o a w s I h d v ef := by
        rintro neg rfl hopn
        simp only [ev, Option.map_eq_some_iff] at hev
        obtain ⟨q, hq, heq⟩ := hev
        cases heq
        have k1 := sim_isnil (P := P) (t := t) neg (.inr (.inl ⟨rfl, ⟨e, hu⟩, hy⟩)) hq (hop x x' h1) x y
        rw [← hopn] at k1
        exact .value (by simp only [execOp, ho]; rw [Sem.run_bind, k1]; rfl) (.t _ _ (.bool _))
      cases op <;> simp at ht
      · exact hb false ht.symm rfl
      · exact hb true ht.symm rfl
    · rename_i f1 f2 f3 x' hu h1 h2
      have hy := eval_nilf (a := a) h2
      have hb : ∀ neg : Bool, i = .isnil neg 2 x' → op = (if neg then .neq else .eql) → Does P o a w s I h d v ef := by
        rintro neg rfl hopn
        simp only [ev, Option.map_eq_some_iff] at hev
        obtain ⟨q, hq, heq⟩ := hev
        cases heq
        have k1 := sim_isnil (P := P) (t := t) neg (.inr (.inr ⟨rfl, ⟨_, _, _, hu⟩, hy⟩)) hq (hop x x' h1) x y
        rw [← hopn] at k1
        exact .value (by simp only [execOp, ho]; rw [Sem.run_bind, k1]; rfl) (.t _ _ (.bool _))
      cases op <;> simp at ht
      · exact hb false ht.symm rfl
      · exact hb true ht.symm rfl
    · cases ht
  | unOp op t x =>
    rw [ho] at ht; simp only [trOp] at ht
    split at ht
    · rename_i x' h1
      cases ht
      simp only [ev] at hev
      split at hev
      · rename_i b hb
        cases hev
        have hx := hop x x' h1
        rw [hb] at hx
        have hx' := hx.inv_t
        generalize hxe : a.eval x = xv at hx'
        cases hx'
        exact .value (by simp [execOp, ho, hxe, Op.unary]) (.t _ _ (.bool _))
      · cases hev
    · rename_i x' h1
      cases ht
      simp only [ev] at hev
      split at hev
      · rename_i k n hb
        cases hev
        have hx := hop x x' h1
        rw [hb] at hx
        have hx' := hx.inv_t
        generalize hxe : a.eval x = xv at hx'
        cases hx'
        exact .value (by simp [execOp, ho, hxe, Op.unary, Op.intArith]; rfl) (.t _ _ (.int _ _))
      · cases hev
    · cases ht
  | convert t u x =>
    rw [ho] at ht; simp only [trOp] at ht
    split at ht
    · rename_i k1 k x' h1 h2 h3
      cases ht
      simp only [ev] at hev
      split at hev
      · rename_i k0 n hb
        cases hev
        have hx := hop x x' h3
        rw [hb] at hx
        have hx' := hx.inv_t
        generalize hxe : a.eval x = xv at hx'
        cases hx'
        exact .value (by simp [execOp, ho, hxe, convert, run_underlying h1, run_underlying h2, Conv.intToInt]; rfl) (.t _ _ (.int _ _))
      · cases hev
    · cases ht
  | build t parts =>
    rw [ho] at ht; simp only [trOp] at ht
    split at ht
    · rename_i fs hfs
      split at ht
      · rename_i z ps hz hps
        cases ht
        obtain ⟨pl, hpl, hps⟩ := Option.bind_eq_some_iff.1 hps
        simp only [ev, Option.map_eq_some_iff] at hev
        obtain ⟨cs, hcs, heq⟩ := hev
        cases heq
        obtain ⟨u, k1, k2⟩ := sim_bld (P := P) hfs hpl hz hps hop hcs
        exact .value (by simp only [execOp, ho]; rw [Sem.run_bind, k1]; rfl) k2
      · cases ht
    · cases ht
  | buildSlice t n parts =>
    rw [ho] at ht; simp only [trOp] at ht
    split at ht
    · rename_i e he
      split at ht
      · rename_i z ps hz hps
        split at ht
        · rename_i hok
          simp only [Bool.and_eq_true, beq_iff_eq, decide_eq_true_eq] at hok
          cases ht
          simp only [ev] at hev
          split at hev
          · cases hev
          · rename_i ts hts
            split at hev
            · cases hev
            · rename_i hchk
              cases hev
              simp only [Bool.and_eq_true, decide_eq_true_eq] at hchk
              obtain ⟨⟨q1, q2⟩, q3⟩ := hchk
              obtain ⟨u, s', w', k1, k2, k3⟩ := sim_bs (P := P) r d he hz (by omega) hok.1.1 hok.1.2 hok.2 hps hop hts q1 q2 (fun t ht cs e => by subst e; have := List.all_eq_true.1 q3 _ ht; simp [noTup] at this)
              exact ⟨.value u, u, s', w', by simp only [execOp, ho]; rw [Sem.run_bind, k1]; rfl, .inl rfl, k2, k3⟩
        · cases ht
      · cases ht
    · cases ht
  | extract x j =>
    rw [ho] at ht; simp only [trOp, Option.map_eq_some_iff] at ht
    obtain ⟨y, hy, rfl⟩ := ht
    simp only [ev] at hev
    obtain ⟨hv, rfl⟩ := map_non hev
    obtain ⟨u, k1, k2⟩ := sim_ext (P := P) hv (hop x y hy)
    exact .value (by simp [execOp, ho, k1]) k2
  | field t x f =>
    rw [ho] at ht; simp only [trOp] at ht
    split at ht
    · rename_i fs hfs
      split at ht
      · rename_i fl x' h1 h2
        split at ht
        · rename_i g n h3 h4
          cases ht
          simp only [ev] at hev
          obtain ⟨hv, rfl⟩ := map_non hev
          obtain ⟨u, k1, k2⟩ := sim_fld (P := P) hfs h1 h3 h4 hv (hop x x' h2)
          exact .value (by simp [execOp, ho, k1]) k2
        · cases ht
      · cases ht
    · cases ht
  | slice t x lo hi mx =>
    cases mx with
    | some m => rw [ho] at ht; simp [trOp] at ht
    | none =>
      rw [ho] at ht; simp only [trOp] at ht
      split at ht
      · rename_i lo' hi' x' h1 h2 h3
        split at ht
        · rename_i hu
          cases ht
          simp only [ev] at hev
          split at hev
          · rename_i l k hl hk
            obtain ⟨hv, rfl⟩ := map_non hev
            obtain ⟨u, k1, k2⟩ := sim_sls (P := P) hu (bound_rel hop h1 hl) (bound_rel hop h2 hk) hv (hop x x' h3)
            exact .value (by simp only [execOp, ho]; rw [Sem.run_bind, Option.map_none, k1]; rfl) k2
          · cases hev
        · rename_i e hu
          split at ht
          · rename_i z hz
            cases ht
            simp only [ev] at hev
            split at hev
            · rename_i l k hl hk
              obtain ⟨hv, rfl⟩ := map_non hev
              obtain ⟨u, k1, k2⟩ := sim_sl (P := P) hu hz (bound_rel hop h1 hl) (bound_rel hop h2 hk) hv (hop x x' h3)
              exact .value (by simp only [execOp, ho]; rw [Sem.run_bind, Option.map_none, k1]; rfl) k2
            · cases hev
          · cases ht
        · cases ht
      · cases ht
  | makeSlice t l c =>
    rw [ho] at ht; simp only [trOp] at ht
    split at ht
    · rename_i e he
      split at ht
      · rename_i z b zs l' c' h1 h2 h3 h4 h5
        split at ht
        · rename_i hzl
          cases ht
          simp only [ev] at hev
          split at hev
          · rename_i n m hn hm
            split at hev
            · rename_i hc
              obtain ⟨rfl, c1, c2⟩ := hc
              cases hev
              obtain ⟨u, s', w', k1, k2, k3⟩ := sim_mk (P := P) r d he h1 (by omega) h2 (by omega) h3 (by simpa using hzl) hn hm (hop l l' h4) (hop c c' h5) c1 c2
              exact ⟨.value u, u, s', w', by simp [execOp, ho, k1], .inl rfl, k2, k3⟩
            · cases hev
          · cases hev
        · cases ht
      · cases ht
    · cases ht
  | makeFunc g fs caps =>
    rw [ho] at ht
    simp only [trOp] at ht
    split at ht
    · rename_i f hfs
      have hfe : fs = #[] := Array.toList_eq_nil_iff.1 hfs
      subst hfe
      simp only [Option.map_eq_some_iff] at ht
      obtain ⟨ys, hys, rfl⟩ := ht
      simp [ev] at hev
      obtain ⟨rfl, rfl⟩ := hev
      obtain ⟨g, q1, q2, q3⟩ := trOs_map (a := a) hop hys
      have hcap : caps.map a.eval = (caps.toList.map a.eval).toArray := Array.ext' (by rw [Array.toList_map])
      refine .value (u := .func (.func f) #[] (caps.map a.eval)) (by simp [execOp, ho, Instr.makeFunc]) ?_
      rw [hcap]
      exact rel_mkFn q1 q2 q3
    · cases ht
  | nilCheck x =>
    rw [ho] at ht; simp only [trOp, Option.map_eq_some_iff] at ht
    obtain ⟨y, hy, rfl⟩ := ht
    simp only [ev] at hev
    obtain ⟨hv, rfl⟩ := map_non hev
    have hx := hop x y hy
    have hkeep : v = opd tm y ∧ ((∃ a', a.eval x = .pointer (some a')) ∨ ∃ f us, a.eval x = .func (.func f) #[] us) := by
      generalize opd tm y = Y at hv hx
      generalize a.eval x = xv at hx
      cases hx with
      | t y' u hyt => cases hyt <;> simp [evNck] at hv <;> subst hv <;> simp
      | ptr => simp [evNck] at hv; subst hv; simp
      | fnv => simp [evNck] at hv; subst hv; simp
      | _ => simp [evNck] at hv
    obtain ⟨rfl, hk⟩ := hkeep
    refine .value (u := a.eval x) ?_ hx
    rcases hk with ⟨a', e⟩ | ⟨f, us, e⟩ <;> simp [execOp, ho, e]
  | call c =>
    rw [ho] at ht; simp only [trOp] at ht
    split at ht
    · rename_i b hcal
      have harr : ∀ {α : Type} (xs : Array α) (l : List α), xs.toList = l → xs = l.toArray := fun xs l e => by rw [← e]
      split at ht
      · rename_i x t hargs hts
        have ha := harr _ _ hargs; have htt := harr _ _ hts
        split at ht
        · rename_i e he
          simp only [Option.map_eq_some_iff] at ht
          obtain ⟨y, hy, rfl⟩ := ht
          simp only [ev] at hev
          obtain ⟨c0, hc, rfl, rfl⟩ := map_nonT hev
          obtain ⟨u, k1, k2⟩ := sim_len (P := P) (ty := o.type) he hc (hop x y hy)
          exact .value (by simp [execOp, ho, resolve, hcal, invoke, builtin, ha, htt, k1]) (.t _ _ k2)
        · rename_i he
          simp only [Option.map_eq_some_iff] at ht
          obtain ⟨y, hy, rfl⟩ := ht
          simp only [ev] at hev
          split at hev
          · rename_i bs hb
            cases hev
            have hx := hop x y hy
            rw [hb] at hx
            have hx' := hx.inv_t
            generalize hxe : a.eval x = xv at hx'
            cases hx'
            exact .value (by simp [execOp, ho, resolve, hcal, invoke, builtin, ha, htt, hxe, sim_lens he]) (.t _ _ (.int _ _))
          · cases hev
        · cases ht
      · rename_i x y t u hargs hts
        have ha := harr _ _ hargs; have htt := harr _ _ hts
        split at ht
        · rename_i e he
          split at ht
          · rename_i z b' zs x' y' h1 h2 h3 h4 h5
            split at ht
            · rename_i hok
              simp only [Bool.and_eq_true, decide_eq_true_eq] at hok
              have := beq_yes hok.1
              subst this
              cases ht
              simp only [ev] at hev
              split at hev
              · cases hev
              · rename_i ys hys
                obtain ⟨u, s', w', k1, k2, k3⟩ := sim_app (P := P) r d o.type he h1 (by omega) h2 (by omega) h3 hok.2 hys hev (hop x x' h4) (hop y y' h5)
                exact ⟨.value u, u, s', w', by simp [execOp, ho, resolve, hcal, invoke, builtin, ha, htt, k1], .inl rfl, k2, k3⟩
            · cases ht
          · cases ht
        · cases ht
      · rename_i x t hargs hts
        have ha := harr _ _ hargs; have htt := harr _ _ hts
        split at ht
        · rename_i e he
          split at ht
          · rename_i z zs x' h1 h2 h3
            split at ht
            · rename_i hok
              simp only [decide_eq_true_eq] at hok
              cases ht
              simp only [ev, Option.map_eq_some_iff] at hev
              obtain ⟨ef', hef, hq⟩ := hev
              cases hq
              obtain ⟨s', w', k1, k2⟩ := sim_clr (P := P) (ty := o.type) r d he h1 (by omega) h2 hok hef (hop x x' h3)
              exact ⟨.value (.tuple #[]), .tuple #[], s', w', by simp [execOp, ho, resolve, hcal, invoke, builtin, ha, htt, k1], .inl rfl, k2, .t _ _ (.tup [] #[] (fun _ => undef) rfl (fun i x hx => by simp at hx) (fun i x hx => by simp at hx))⟩
            · cases ht
          · cases ht
        · cases ht
      · rename_i _ x y hargs
        have ha := harr _ _ hargs
        split at ht
        · rename_i x' y' h1 h2
          cases ht
          simp only [ev] at hev
          split at hev
          · rename_i k p k' q hp hq
            split at hev
            · cases hev
              have hx := hop x x' h1; have hy := hop y y' h2
              rw [hp] at hx; rw [hq] at hy
              have hx' := hx.inv_t; have hy' := hy.inv_t
              generalize hxe : a.eval x = xv at hx'
              generalize hye : a.eval y = yv at hy'
              cases hx'; cases hy'
              exact .value (by simp [execOp, ho, resolve, hcal, invoke, builtin, ha, hxe, hye, Builtin.min_, Builtin.min2]) (.t _ _ (.int _ _))
            · cases hev
          · cases hev
        · cases ht
      · rename_i _ x y hargs
        have ha := harr _ _ hargs
        split at ht
        · rename_i x' y' h1 h2
          cases ht
          simp only [ev] at hev
          split at hev
          · rename_i k p k' q hp hq
            split at hev
            · cases hev
              have hx := hop x x' h1; have hy := hop y y' h2
              rw [hp] at hx; rw [hq] at hy
              have hx' := hx.inv_t; have hy' := hy.inv_t
              generalize hxe : a.eval x = xv at hx'
              generalize hye : a.eval y = yv at hy'
              cases hx'; cases hy'
              exact .value (by simp [execOp, ho, resolve, hcal, invoke, builtin, ha, hxe, hye, Builtin.max_, Builtin.max2]) (.t _ _ (.int _ _))
            · cases hev
          · cases hev
        · cases ht
      · cases ht
    · split at ht
      · cases ht; simp [ev] at hev
      · cases ht; simp [ev] at hev
      · cases ht
    · cases ht
  | _ => rw [ho] at ht; simp [trOp] at ht

end
end Go.Eng
