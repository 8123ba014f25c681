/-
An engine for proofs about Go functions, part D: what the model does at an instruction is what the engine says.
-/
import Derived.Test.YtijeohfdfoebfaaEngC
import Derived.Laws.StructEq
import Derived.Laws.Pointers
import Derived.Lib.SliceRun
import Derived.Laws.Cover3
import Derived.Laws.Tables
import Derived.Deep.MidRow
set_option linter.all false
namespace Go.Eng
open Go.RowKit
set_option linter.unusedSimpArgs false

section
variable {P : Program} {w : World} {t : TypeId}

theorem run_aggT {g : Bool} (h : aggT P t = some g) : (isAgg t).run P w = .ok g w := by
  unfold aggT at h
  unfold isAgg
  cases hu : P.underlying t with
  | none => simp [hu] at h
  | some d =>
    rw [hu] at h
    simp only [Sem.run_bind, run_underlying hu, Result.andThen_ok]
    cases d <;> simp at h <;> subst h <;> rfl

theorem run_sizeT {n : Nat} (h : sizeT P t = some n) : (sizeOf t).run P w = .ok n w := by
  unfold sizeT at h
  obtain ⟨i, hi, rfl⟩ := Option.map_eq_some_iff.1 h
  simp [sizeOf, typeInfo, hi]
end

theorem allT_some : ∀ {vs : List V} {ts : List T}, allT vs = some ts → vs = ts.map V.t
  | [], ts, h => by simp [allT] at h; subst h; rfl
  | v :: r, ts, h => by
    cases v <;> simp [allT] at h
    obtain ⟨a, ha, rfl⟩ := h
    simp [allT_some ha]

section
variable {s : Nat → Option Loc} {I : Nat → Prop} {w : World}

theorem RelV.inv_t {x : T} {v : Value} (h : RelV s I w (.t x) v) : RelT I w x v := by cases h; assumption

theorem rel_mkAgg {vs : List V} {us : Array Value} {f : Nat → Value} (hs : us.size = vs.length) (hc : ∀ (i : Nat) (x : V), vs[i]? = some x → us[i]? = some (f i))
    (ho : ∀ (i : Nat) (x : V), vs[i]? = some x → (f i).oneCell' = true) (hr : ∀ (i : Nat) (x : V), vs[i]? = some x → RelV s I w x (f i)) : RelV s I w (mkAgg vs) (.agg us) := by
  unfold mkAgg
  cases h : allT vs with
  | none => exact .agg vs us f hs hc ho hr
  | some ts =>
    have e := allT_some h
    subst e
    have g : ∀ (i : Nat) (x : T), ts[i]? = some x → (ts.map V.t)[i]? = some (.t x) := fun i x hx => by simp [hx]
    exact .t _ _ (.agg ts us f (by simpa using hs) (fun i x hx => hc i _ (g i x hx)) (fun i x hx => ho i _ (g i x hx)) (fun i x hx => (hr i _ (g i x hx)).inv_t))

theorem cut_get {α : Type} (l : List α) (j n i : Nat) (x : α) (h : (cut l j n)[i]? = some x) : i < n ∧ l[j + i]? = some x := by
  unfold cut at h
  rw [List.getElem?_take] at h
  split at h
  · exact ⟨by assumption, by rwa [List.getElem?_drop] at h⟩
  · cases h

theorem cut_length {α : Type} (l : List α) (j n : Nat) (h : j + n ≤ l.length) : (cut l j n).length = n := by
  unfold cut; rw [List.length_take, List.length_drop]; omega

/-- Loading some cells. -/
theorem run_load_part {P : Program} {t : TypeId} {g : Bool} {n b o j : Nat} {cs : List V} {f : Nat → Value} {v : V} (hg : aggT P t = some g) (hn : sizeT P t = some n) (hp : part g n j cs = some v)
    (hc : ∀ (i : Nat) (x : V), cs[i]? = some x → w.cell? ⟨b, o + i, none⟩ = some (f i)) (ho : ∀ (i : Nat) (x : V), cs[i]? = some x → (f i).oneCell' = true)
    (hr : ∀ (i : Nat) (x : V), cs[i]? = some x → RelV s I w x (f i)) :
    ∃ u, (Instr.loadAt t (.pointer (some ⟨b, o + j, none⟩))).run P w = .ok u w ∧ RelV s I w v u := by
  cases g with
  | true =>
    simp only [part] at hp
    split at hp
    · rename_i hle
      simp only [decide_eq_true_eq] at hle
      cases hp
      have hcell : ∀ i, i < n → w.cell? ((⟨b, o + j, none⟩ : Addr).add i) = some (f (j + i)) := by
        intro i hi
        rw [Addr.add_mid, Nat.add_assoc]
        exact hc (j + i) cs[j + i] (List.getElem?_eq_getElem (by omega))
      refine ⟨.agg ((List.range n).map fun i => f (j + i)).toArray, ?_, rel_mkAgg (f := fun i => f (j + i)) ?_ ?_ ?_ ?_⟩
      · have hl := run_loadCells (P := P) w ⟨b, o + j, none⟩ n (fun i => f (j + i)) hcell
        simp [Instr.loadAt, Instr.sureAddr, loadVar, run_aggT hg, run_sizeT hn, hl]
      · rw [cut_length _ _ _ hle]; simp
      · intro i x hx
        obtain ⟨hi, -⟩ := cut_get _ _ _ _ _ hx
        simp [hi]
      · intro i x hx; exact ho _ _ (cut_get _ _ _ _ _ hx).2
      · intro i x hx; exact hr _ _ (cut_get _ _ _ _ _ hx).2
    · cases hp
  | false =>
    simp only [part] at hp
    have hcell := hc j v hp
    refine ⟨f j, ?_, hr j v hp⟩
    simp [Instr.loadAt, Instr.sureAddr, loadVar, run_aggT hg, hcell]

theorem partT_part {g : Bool} {n j : Nat} {e : List T} {x : T} (h : partT g n j e = some x) : part g n j (e.map V.t) = some (.t x) := by
  cases g with
  | true =>
    simp only [partT] at h
    split at h
    · rename_i hle
      cases h
      simp only [part, List.length_map, hle]
      congr 1
      have hm : cut (e.map V.t) j n = (cut e j n).map V.t := by simp [cut, List.map_drop, List.map_take]
      have : ∀ l : List T, allT (l.map V.t) = some l := by
        intro l; induction l with
        | nil => rfl
        | cons a r ih => simp [allT, ih]
      simp [mkAgg, hm, this]
    · cases h
  | false => simp only [partT] at h; simp [part, h]

theorem sim_ld {P : Program} {t : TypeId} {g : Bool} {n : Nat} {h : Lk} {X v : V} {x : Value} (hg : aggT P t = some g) (hn : sizeT P t = some n) (hev : evLd h g n X = some v) (hx : RelV s I w X x) (r : Rep s I w h) :
    ∃ u, (Instr.loadAt t x).run P w = .ok u w ∧ RelV s I w v u := by
  cases hx with
  | ptr m i j L hL =>
    simp only [evLd] at hev
    cases ho : h m with
    | none => simp [ho] at hev
    | some o =>
      rw [ho] at hev
      have ow := (r.own m o L ho hL).1
      cases o with
      | box cs =>
        obtain ⟨C, el, h1, h2, h3, h4, h5⟩ := ow
        cases i with
        | succ i => simp at hev
        | zero =>
          simp only [Nat.zero_mul] at hev ⊢
          have key : ∀ (i : Nat) (x : V), cs[i]? = some x → w.cell? ⟨L.b, 0 + i, none⟩ = some (C.getD i undef) ∧ (C.getD i undef).oneCell' = true ∧ RelV s I w x (C.getD i undef) := by
            intro i x hx
            obtain ⟨u, a, b, c⟩ := h5 i x hx
            have : C.getD i undef = u := by rw [Array.getD_eq_getD_getElem?, a]; rfl
            rw [this]
            exact ⟨by simp [World.cell?, h1, a], c, b⟩
          exact run_load_part hg hn hev (fun i x hx => (key i x hx).1) (fun i x hx => (key i x hx).2.1) (fun i x hx => (key i x hx).2.2)
      | row ty z es =>
        obtain ⟨C, h1, h2, h3, h4, h5, h6, h7⟩ := ow
        simp only at hev
        cases he : es[i]? with
        | none => simp [he] at hev
        | some e =>
          rw [he] at hev
          obtain ⟨x, hx, rfl⟩ := Option.map_eq_some_iff.1 hev
          have key : ∀ (k : Nat) (y : V), (e.map V.t)[k]? = some y → w.cell? ⟨L.b, i * L.z + k, none⟩ = some (C.getD (i * z + k) undef) ∧ (C.getD (i * z + k) undef).oneCell' = true ∧ RelV s I w y (C.getD (i * z + k) undef) := by
            intro k y hy
            rw [List.getElem?_map] at hy
            obtain ⟨x', hx', rfl⟩ := Option.map_eq_some_iff.1 hy
            obtain ⟨u, a, b, c⟩ := h7 i e k x' he hx'
            have : C.getD (i * z + k) undef = u := by rw [Array.getD_eq_getD_getElem?, a]; rfl
            rw [this, h3]
            exact ⟨by simp [World.cell?, h1, a], c, .t _ _ b⟩
          exact run_load_part hg hn (partT_part hx) (fun i x hx => (key i x hx).1) (fun i x hx => (key i x hx).2.1) (fun i x hx => (key i x hx).2.2)
  | t y u hy =>
    cases hy with
    | ref z es b o i j us hI hz hc ho hr =>
      simp only [evLd] at hev
      cases he : es[i]? with
      | none => simp [he] at hev
      | some e =>
        rw [he] at hev
        obtain ⟨x, hx, rfl⟩ := Option.map_eq_some_iff.1 hev
        have key : ∀ (k : Nat) (y : V), (e.map V.t)[k]? = some y → w.cell? ⟨b, o + i * z + k, none⟩ = some (us i k) ∧ (us i k).oneCell' = true ∧ RelV s I w y (us i k) := by
          intro k y hy
          rw [List.getElem?_map] at hy
          obtain ⟨x', hx', rfl⟩ := Option.map_eq_some_iff.1 hy
          exact ⟨hc i e k x' he hx', ho i e k x' he hx', .t _ _ (hr i e k x' he hx')⟩
        exact run_load_part hg hn (partT_part hx) (fun i x hx => (key i x hx).1) (fun i x hx => (key i x hx).2.1) (fun i x hx => (key i x hx).2.2)
    | _ => simp [evLd] at hev
  | _ => simp [evLd] at hev

theorem sim_fa {P : Program} {t : TypeId} {fs : Array Field} {fl : Field} {k f : Nat} {X v : V} {x : Value} (ht : P.underlying t = some (.struct fs)) (hf : fs[f]? = some fl) (hz : sizeT P fl.type = some (k + 1))
    (hev : (match X with | .ptr m i j => some (V.ptr m i (j + fl.offset)) | .t (.ref z es i j) => some (.t (.ref z es i (j + fl.offset))) | _ => none) = some v) (hx : RelV s I w X x) :
    ∃ u, (Instr.fieldAt t x f).run P w = .ok u w ∧ RelV s I w v u := by
  have run : ∀ b o, (Instr.fieldAt t (.pointer (some ⟨b, o, none⟩)) f).run P w = .ok (.pointer (some ⟨b, o + fl.offset, none⟩)) w := by
    intro b o
    simp [Instr.fieldAt, run_underlying ht, hf, Instr.sureAddr, fieldPlace, run_sizeT hz, Addr.add_mid]
  cases hx with
  | ptr m i j L hL =>
    simp at hev; subst hev
    exact ⟨_, run _ _, by rw [Nat.add_assoc]; exact .ptr m i (j + fl.offset) L hL⟩
  | t y u hy =>
    cases hy with
    | ref z es b o i j us hI hz hc ho hr =>
      simp at hev; subst hev
      exact ⟨_, run _ _, by rw [Nat.add_assoc]; exact .t _ _ (.ref z es b o i (j + fl.offset) us hI hz hc ho hr)⟩
    | _ => simp at hev
  | _ => simp at hev

theorem num_rel {X : V} {x : Value} {n : Int} (h : X.num? = some n) (hx : RelV s I w X x) : ∃ k, x = .int k n := by
  cases hx with
  | t y u hy => cases hy <;> simp [V.num?] at h; subst h; exact ⟨_, rfl⟩
  | _ => simp [V.num?] at h

theorem run_indexAt {P : Program} {t e : TypeId} {z : Nat} (ht : P.underlying t = some (.slice e)) (hz : sizeT P e = some z) (a : Addr) (len cap : Nat) (k : IntKind) (i : Int) (h0 : 0 ≤ i) (h1 : i < len) :
    (Instr.indexAt t (.slice (some a) len cap) (.int k i)).run P w = .ok (.pointer (some (a.add (i.toNat * z)))) w := by
  simp [Instr.indexAt, asIntOf, run_underlying ht, run_sizeT hz, h0, h1]

theorem sim_ia {P : Program} {t e : TypeId} {z : Nat} {k : Int} {X v : V} {x i : Value} (ht : P.underlying t = some (.slice e)) (hz : sizeT P e = some z) {Y : V} (hk : Y.num? = some k) (hi : RelV s I w Y i)
    (hev : evIa z k X = some v) (hx : RelV s I w X x) : ∃ u, (Instr.indexAt t x i).run P w = .ok u w ∧ RelV s I w v u := by
  obtain ⟨kk, rfl⟩ := num_rel hk hi
  cases hx with
  | slc m b len L o cap hL hl hm ho h0 htt =>
    simp only [evIa] at hev
    split at hev
    · rename_i hbq
      have hzL := beq_yes hbq
      split at hev
      · rename_i hb
        cases hev
        refine ⟨_, run_indexAt ht hz _ _ _ _ _ hb.1 hb.2, ?_⟩
        have hcap : cap ≠ 0 := by have := hb.2; omega
        have ho' : o = b * L.z := ho.resolve_right hcap
        rw [Addr.add_mid, ho', ← hzL, ← Nat.add_mul]
        exact .ptr m (b + k.toNat) 0 L hL
      · cases hev
    · cases hev
  | t y u hy =>
    cases hy with
    | lst z' es b o cap us hl hm hI hzz' hc hoo hr =>
      simp only [evIa] at hev
      split at hev
      · rename_i hbq
        have := beq_yes hbq; subst this
        split at hev
        · rename_i hb
          cases hev
          refine ⟨_, run_indexAt ht hz _ _ _ _ _ hb.1 hb.2, ?_⟩
          rw [Addr.add_mid]
          exact .t _ _ (.ref z' es b o k.toNat 0 us hI hzz' hc hoo hr)
        · cases hev
      · cases hev
    | lst0 z' a cap ha =>
      simp only [evIa] at hev
      split at hev
      · split at hev
        · rename_i hb; have h1 := hb.1; have h2 := hb.2; simp at h2; omega
        · cases hev
      · cases hev
    | _ => simp [evIa] at hev
  | _ => simp [evIa] at hev

theorem sim_ixs {P : Program} {t : TypeId} {b : ByteArray} {i : Value} {Y : V} {k : Int} {c : UInt8} (ht : P.underlying t = some .string) (hk : Y.num? = some k) (hi : RelV s I w Y i) (h0 : 0 ≤ k) (hb : b[k.toNat]? = some c) :
    (Instr.index t (.string b) i).run P w = .ok (.int .u8 c.toNat) w := by
  obtain ⟨kk, rfl⟩ := num_rel hk hi
  simp [Instr.index, asIntOf, run_underlying ht, h0, hb]

theorem sim_len {P : Program} {t ty e : TypeId} {X : V} {x : Value} {y : T} (ht : P.underlying t = some (.slice e)) (hev : evLen X = some y) (hx : RelV s I w X x) :
    ∃ u, (Builtin.len_ #[t] ty #[x]).run P w = .ok u w ∧ RelT I w y u := by
  have sl : ∀ a n c, (Builtin.len_ #[t] ty #[.slice a n c]).run P w = .ok (.int .i64 n) w := by
    intro a n c
    simp [Builtin.len_, run_underlying ht, goInt]
  cases hx with
  | slc m b len L o cap hL hl hm ho h0 htt => simp [evLen] at hev; subst hev; exact ⟨_, sl _ _ _, .int _ _⟩
  | t y' u hy =>
    cases hy <;> simp [evLen] at hev <;> subst hev
    · exact ⟨_, sl _ _ _, by simpa using RelT.int .i64 0⟩
    · exact ⟨_, sl _ _ _, by simpa using RelT.int .i64 0⟩
    · exact ⟨_, sl _ _ _, by simpa using RelT.int .i64 0⟩
    · exact ⟨_, sl _ _ _, .int _ _⟩
  | _ => simp [evLen] at hev

theorem sim_lens {P : Program} {t ty : TypeId} (ht : P.underlying t = some .string) (b : ByteArray) : (Builtin.len_ #[t] ty #[.string b]).run P w = .ok (.int .i64 b.size) w := by
  simp [Builtin.len_, run_underlying ht, goInt]

theorem run_eqGuard {P : Program} (op : BinOp) (t : TypeId) (x y : Operand) (a b : Value) (h : (∀ c, a ≠ .agg c) ∧ a ≠ .nilIface) : (eqGuard op t x y a b).run P w = .ok () w := by
  unfold eqGuard
  cases op <;> simp <;> (split <;> simp_all)

theorem sim_bin {P : Program} {op : BinOp} {t : TypeId} {A B y : T} {a b : Value} (hev : binT op A B = some y) (ha : RelT I w A a) (hb : RelT I w B b) (X Y : Operand) :
    ∃ u, (do eqGuard op t X Y a b; binOp op t a b : Sem Value).run P w = .ok u w ∧ RelT I w y u := by
  cases ha with
  | int k n =>
    cases hb with
    | int k' n' =>
      simp only [binT] at hev
      have hg := run_eqGuard (P := P) (w := w) op t X Y (.int k n) (.int k' n') ⟨by simp, by simp⟩
      split at hev
      · cases hev
      · rename_i hk
        simp only [decide_eq_true_eq] at hk
        subst hk
        simp only [Sem.run_bind, hg, Result.andThen_ok]
        cases op <;> simp [intCmp] at hev <;> subst hev <;> simp [binOp, Op.intArith, Op.intCmp] <;> first | exact .int _ _ | exact .bool _
    | _ => simp [binT] at hev
  | str c =>
    cases hb with
    | str c' =>
      have hg := run_eqGuard (P := P) (w := w) op t X Y (.string c) (.string c') ⟨by simp, by simp⟩
      simp only [Sem.run_bind, hg, Result.andThen_ok]
      cases op <;> simp [binT] at hev <;> subst hev <;> simp [binOp, Op.stringOp] <;> exact .bool _
    | _ => simp [binT] at hev
  | _ => simp [binT] at hev

theorem sim_beq {P : Program} {t : TypeId} (ht : P.underlying t = some .bool) (neg a b : Bool) (X Y : Operand) :
    (do eqGuard (if neg then .neq else .eql) t X Y (.bool a) (.bool b); binOp (if neg then .neq else .eql) t (.bool a) (.bool b) : Sem Value).run P w = .ok (.bool (if neg then !(a == b) else (a == b))) w := by
  have hg := run_eqGuard (P := P) (w := w) (if neg then .neq else .eql) t X Y (.bool a) (.bool b) ⟨by simp, by simp⟩
  simp only [Sem.run_bind, hg, Result.andThen_ok]
  cases neg
  · exact run_eql_bool w t a b ht
  · exact run_neq_bool w t a b ht

theorem run_part_cell {P : Program} {t : TypeId} {k : Nat} (hk : basic P t = some k) {us : Array Value} {i : Nat} {u : Value} (h : us[i]? = some u) : (_root_.Go.part t us i).run P w = .ok u w := by
  have hg : (isAgg t).run P w = .ok false w := by
    unfold basic at hk
    cases hu : P.underlying t with
    | none => simp [hu] at hk
    | some d =>
      rw [hu] at hk
      simp only [isAgg, Sem.run_bind, run_underlying hu, Result.andThen_ok]
      cases d <;> simp at hk <;> rfl
  simp [_root_.Go.part, hg, h]

theorem sim_eqFields {P : Program} (d : Nat) {us vs : Array Value} : ∀ (fs : List Field) (i : Nat) (ks : List Nat) (xs ys : List T) (r : Bool), kinds P i fs = some ks → eqCells ks xs ys = some r →
    (∀ (j : Nat) (x : T), xs[j]? = some x → ∃ u, us[i + j]? = some u ∧ RelT I w x u) → (∀ (j : Nat) (x : T), ys[j]? = some x → ∃ u, vs[i + j]? = some u ∧ RelT I w x u) →
    (Op.eqFields (d + 1) us vs fs).run P w = .ok r w
  | [], i, ks, xs, ys, r, hk, he, _, _ => by
    simp [kinds] at hk; subst hk
    cases xs <;> cases ys <;> simp [eqCells] at he
    subst he; rfl
  | f :: fs, i, ks, xs, ys, r, hk, he, hx, hy => by
    simp only [kinds] at hk
    split at hk
    · rename_i k ks' hb hok hks
      cases hk
      simp only [Bool.and_eq_true, beq_iff_eq, bne_iff_ne, ne_eq] at hok
      obtain ⟨hoff, hnm⟩ := hok
      have step : ∀ (x y : T) (xs' ys' : List T) (q r' : Bool), xs = x :: xs' → ys = y :: ys' → eqCells ks' xs' ys' = some r' →
          (∀ u v, RelT I w x u → RelT I w y v → (Op.equalIn (d + 1) f.type u v).run P w = .ok q w) → (Op.eqFields (d + 1) us vs (f :: fs)).run P w = .ok (q && r') w := by
        intro x y xs' ys' q r' e1 e2 e3 heq
        subst e1; subst e2
        obtain ⟨u, hu, ru⟩ := hx 0 x rfl
        obtain ⟨v, hv, rv⟩ := hy 0 y rfl
        simp only [Nat.add_zero] at hu hv
        have ih := sim_eqFields d fs (i + 1) ks' xs' ys' r' hks e3 (fun j x hj => by have := hx (j + 1) x (by simpa using hj); rwa [show i + (j + 1) = i + 1 + j by omega] at this) (fun j x hj => by have := hy (j + 1) x (by simpa using hj); rwa [show i + (j + 1) = i + 1 + j by omega] at this)
        simp only [Op.eqFields, if_pos hnm, Sem.run_bind, hoff, run_part_cell hb hu, run_part_cell hb hv, Result.andThen_ok, heq u v ru rv]
        cases q
        · simp
        · simpa using ih
      unfold basic at hb
      cases hu : P.underlying f.type with
      | none => simp [hu] at hb
      | some dd =>
        rw [hu] at hb
        cases xs with
        | nil => cases k <;> cases ys <;> simp [eqCells] at he
        | cons x xs =>
          cases ys with
          | nil => cases x <;> (try cases k) <;> simp [eqCells] at he
          | cons y ys =>
            cases dd <;> simp at hb <;> subst hb
            · cases x with
              | bool a => cases y with
                | bool b =>
                  simp only [eqCells, Option.map_eq_some_iff] at he
                  obtain ⟨r', hr', rfl⟩ := he
                  exact step _ _ xs ys _ r' rfl rfl hr' (fun u v ru rv => by cases ru; cases rv; exact run_equalIn_bool w d f.type _ _ hu)
                | _ => simp [eqCells] at he
              | _ => simp [eqCells] at he
            · cases x with
              | int ka a => cases y with
                | int kb b =>
                  simp only [eqCells] at he
                  split at he
                  · rename_i hkk
                    simp only [decide_eq_true_eq] at hkk
                    subst hkk
                    simp only [Option.map_eq_some_iff] at he
                    obtain ⟨r', hr', rfl⟩ := he
                    exact step _ _ xs ys _ r' rfl rfl hr' (fun u v ru rv => by cases ru; cases rv; exact run_equalIn_int w d f.type _ _ _ _ hu)
                  · cases he
                | _ => simp [eqCells] at he
              | _ => simp [eqCells] at he
            · cases x with
              | str a => cases y with
                | str b =>
                  simp only [eqCells, Option.map_eq_some_iff] at he
                  obtain ⟨r', hr', rfl⟩ := he
                  exact step _ _ xs ys _ r' rfl rfl hr' (fun u v ru rv => by cases ru; cases rv; exact run_equalIn_string w d f.type _ _ hu)
                | _ => simp [eqCells] at he
              | _ => simp [eqCells] at he
    · cases hk

theorem sim_eqs {P : Program} {t : TypeId} {fs : Array Field} {ks : List Nat} {xs ys : List T} {r : Bool} {x y : Value} (neg : Bool) (ht : P.underlying t = some (.struct fs)) (hk : kinds P 0 fs.toList = some ks)
    (hp : P.stoodInHeld t = false) (hm : P.eqGuardType P.depth t = false) (he : eqCells ks xs ys = some r) (hx : RelT I w (.agg xs) x) (hy : RelT I w (.agg ys) y) (X Y : Operand) :
    (do eqGuard (if neg then .neq else .eql) t X Y x y; binOp (if neg then .neq else .eql) t x y : Sem Value).run P w = .ok (.bool (if neg then !r else r)) w := by
  cases hx with
  | agg _ us f hs hc ho hr =>
    cases hy with
    | agg _ vs g hs' hc' ho' hr' =>
      have hfs : P.fieldsOf t = fs := by simp [Program.fieldsOf, ht]
      have h1 := sim_eqFields (I := I) (w := w) (P := P) (us := us) (vs := vs) 9998 fs.toList 0 ks xs ys r hk he (fun j x hj => ⟨f j, by simpa using hc j x hj, hr j x hj⟩) (fun j x hj => ⟨g j, by simpa using hc' j x hj, hr' j x hj⟩)
      have h2 := run_equalIn_agg (P := P) w 9999 t us vs (by rw [hfs]; exact ht) hp
      rw [hfs] at h2
      simp only [Sem.run_bind, run_eqGuard_agg w _ t X Y us vs hm, Result.andThen_ok]
      cases neg
      · simp only [Bool.false_eq_true, if_false, run_eql_struct]
        rw [h2, h1]; rfl
      · simp only [if_true, run_neq_struct]
        rw [h2, h1]; rfl

theorem run_equalIn_func {P : Program} {t : TypeId} {ps rs : Array TypeId} {vr : Bool} (d : Nat) (x : Value) (r : Bool) (ht : P.underlying t = some (.func ps rs vr)) (h : (x = .nilFunc ∧ r = true) ∨ ((∃ a b c, x = .func a b c) ∧ r = false)) :
    (Op.equalIn (d + 1) t x .nilFunc).run P w = .ok r w := by
  rcases h with ⟨rfl, rfl⟩ | ⟨⟨a, b, c, rfl⟩, rfl⟩ <;> simp [Op.equalIn, run_underlying ht]

theorem sim_isnil {P : Program} {t : TypeId} {k : Nat} {X : V} {x y : Value} {r : Bool} (neg : Bool) (hk : (k = 0 ∧ (∃ e, P.underlying t = some (.pointer e)) ∧ y = .pointer none) ∨ (k = 1 ∧ (∃ e, P.underlying t = some (.slice e)) ∧ y = .slice none 0 0) ∨ (k = 2 ∧ (∃ a b c, P.underlying t = some (.func a b c)) ∧ y = .nilFunc))
    (he : evNil k X = some r) (hx : RelV s I w X x) (A B : Operand) :
    (do eqGuard (if neg then .neq else .eql) t A B x y; binOp (if neg then .neq else .eql) t x y : Sem Value).run P w = .ok (.bool (if neg then !r else r)) w := by
  have hg : (eqGuard (if neg then .neq else .eql) t A B x y).run P w = .ok () w := by
    refine run_eqGuard _ _ _ _ _ _ ?_
    have hkk : k = 0 ∨ k = 1 ∨ k = 2 := by rcases hk with h | h | h <;> simp [h.1]
    cases hx with
    | t z u hz => cases hz <;> first | (constructor <;> simp; done) | (exfalso; rcases hkk with rfl | rfl | rfl <;> simp [evNil] at he)
    | ptr => exact ⟨by simp, by simp⟩
    | slc => exact ⟨by simp, by simp⟩
    | fnv => exact ⟨by simp, by simp⟩
    | _ => exfalso; rcases hkk with rfl | rfl | rfl <;> simp [evNil] at he
  simp only [Sem.run_bind, hg, Result.andThen_ok]
  rcases hk with ⟨rfl, ⟨e, ht⟩, rfl⟩ | ⟨rfl, ⟨e, ht⟩, rfl⟩ | ⟨rfl, ⟨ps, rs, vr, ht⟩, rfl⟩
  · have hp : P.underlying t = some (.pointer (P.pointee t)) := by simp [Program.pointee, ht]
    have h1 : ∀ p : Option Addr, p.isNone = r → (binOp (if neg then .neq else .eql) t (.pointer p) (.pointer none)).run P w = .ok (.bool (if neg then !r else r)) w := by
      rintro p rfl; cases neg
      · exact run_eql_pointer_nil (P := P) w t p hp
      · exact run_neq_pointer_nil (P := P) w t p hp
    cases hx with
    | t z u hz => cases hz <;> simp [evNil] at he <;> exact h1 _ (by simpa using he)
    | ptr => simp [evNil] at he; exact h1 _ (by simpa using he)
    | _ => simp [evNil] at he
  · have h1 : ∀ (a : Option Addr) n c, a.isNone = r → (binOp (if neg then .neq else .eql) t (.slice a n c) (.slice none 0 0)).run P w = .ok (.bool (if neg then !r else r)) w := by
      rintro a n c rfl; cases neg
      · exact Lib.run_eql_slice_nil (P := P) w t e a n c 0 0 ht
      · exact run_neq_slice_nil (P := P) w t e a n c ht
    cases hx with
    | t z u hz =>
      cases hz with
      | lst z es => cases es with
        | nil => simp [evNil] at he
        | cons e r => simp [evNil] at he; exact h1 _ _ _ (by simpa using he)
      | _ => first | (simp [evNil] at he; done) | (simp [evNil] at he; exact h1 _ _ _ (by simpa using he))
    | slc => simp [evNil] at he; exact h1 _ _ _ (by simpa using he)
    | _ => simp [evNil] at he
  · have h1 : ∀ x : Value, (x = .nilFunc ∧ r = true) ∨ ((∃ a b c, x = .func a b c) ∧ r = false) → (binOp (if neg then .neq else .eql) t x .nilFunc).run P w = .ok (.bool (if neg then !r else r)) w := by
      intro x hxx
      have := run_equalIn_func (P := P) (w := w) 9999 x r ht hxx
      rcases hxx with ⟨rfl, rfl⟩ | ⟨⟨a, b, c, rfl⟩, rfl⟩ <;> cases neg <;> simp only [binOp, Op.equal, Op.maxDepth, Bool.false_eq_true, if_false, if_true, Sem.run_bind] <;> rw [this] <;> rfl
    cases hx with
    | t z u hz => cases hz <;> simp [evNil] at he <;> first | exact h1 _ (.inl ⟨rfl, he⟩) | exact h1 _ (.inr ⟨⟨_, _, _, rfl⟩, he⟩)
    | fnv => simp [evNil] at he; exact h1 _ (.inr ⟨⟨_, _, _, rfl⟩, he⟩)
    | _ => simp [evNil] at he

theorem sim_ext {P : Program} {i : Nat} {X v : V} {x : Value} (he : evExt i X = some v) (hx : RelV s I w X x) : ∃ u, (Instr.extract x i).run P w = .ok u w ∧ RelV s I w v u := by
  cases hx with
  | tup cs us f hs hc hr =>
    simp only [evExt] at he
    exact ⟨f i, by simp [Instr.extract, hc i v he], hr i v he⟩
  | t y u hy =>
    cases hy with
    | tup cs us f hs hc hr =>
      simp only [evExt, Option.map_eq_some_iff] at he
      obtain ⟨y, hy, rfl⟩ := he
      exact ⟨f i, by simp [Instr.extract, hc i y hy], .t _ _ (hr i y hy)⟩
    | _ => simp [evExt] at he
  | _ => simp [evExt] at he

theorem extract_get {α : Type} (us : Array α) (j n i : Nat) (h : j + n ≤ us.size) (hi : i < n) : (us.extract j (j + n))[i]? = us[j + i]? := by
  simp only [Array.getElem?_extract]
  rw [if_pos (by omega)]

theorem sim_part {P : Program} {t : TypeId} {g : Bool} {n j : Nat} {cs : List V} {us : Array Value} {f : Nat → Value} {v : V} (hg : aggT P t = some g) (hn : sizeT P t = some n) (hp : part g n j cs = some v) (hs : us.size = cs.length)
    (hc : ∀ (i : Nat) (x : V), cs[i]? = some x → us[i]? = some (f i)) (ho : ∀ (i : Nat) (x : V), cs[i]? = some x → (f i).oneCell' = true) (hr : ∀ (i : Nat) (x : V), cs[i]? = some x → RelV s I w x (f i)) :
    ∃ u, (_root_.Go.part t us j).run P w = .ok u w ∧ RelV s I w v u := by
  cases g with
  | true =>
    simp only [part] at hp
    split at hp
    · rename_i hle
      simp only [decide_eq_true_eq] at hle
      cases hp
      refine ⟨.agg (us.extract j (j + n)), by simp [_root_.Go.part, run_aggT hg, run_sizeT hn], rel_mkAgg (f := fun i => f (j + i)) ?_ ?_ ?_ ?_⟩
      · rw [cut_length _ _ _ hle, Array.size_extract]; omega
      · intro i x hx
        obtain ⟨hi, hx'⟩ := cut_get _ _ _ _ _ hx
        rw [extract_get us j n i (by omega) hi]
        exact hc _ _ hx'
      · intro i x hx; exact ho _ _ (cut_get _ _ _ _ _ hx).2
      · intro i x hx; exact hr _ _ (cut_get _ _ _ _ _ hx).2
    · cases hp
  | false =>
    simp only [part] at hp
    exact ⟨f j, by simp [_root_.Go.part, run_aggT hg, hc j v hp], hr j v hp⟩

theorem sim_fld {P : Program} {t : TypeId} {fs : Array Field} {fl : Field} {g : Bool} {n f : Nat} {X v : V} {x : Value} (ht : P.underlying t = some (.struct fs)) (hf : fs[f]? = some fl) (hg : aggT P fl.type = some g) (hn : sizeT P fl.type = some n)
    (he : evFld g n fl.offset X = some v) (hx : RelV s I w X x) : ∃ u, (Instr.field t x f).run P w = .ok u w ∧ RelV s I w v u := by
  cases hx with
  | agg cs us f' hs hc ho hr =>
    obtain ⟨u, h1, h2⟩ := sim_part (P := P) hg hn he hs hc ho hr
    exact ⟨u, by simp [Instr.field, run_underlying ht, hf, asAgg, h1], h2⟩
  | t y u hy =>
    cases hy with
    | agg cs us f' hs hc ho hr =>
      simp only [evFld, Option.map_eq_some_iff] at he
      obtain ⟨y, hy, rfl⟩ := he
      have key : ∀ (i : Nat) (x : V), (cs.map V.t)[i]? = some x → ∃ y, cs[i]? = some y ∧ x = .t y := fun i x hx => by
        rw [List.getElem?_map] at hx
        obtain ⟨y, h1, h2⟩ := Option.map_eq_some_iff.1 hx
        exact ⟨y, h1, h2.symm⟩
      obtain ⟨u, h1, h2⟩ := sim_part (P := P) (s := s) hg hn (partT_part hy) (us := us) (f := f') (by simpa using hs) (fun i x hx => let ⟨y, a, _⟩ := key i x hx; hc i y a) (fun i x hx => let ⟨y, a, _⟩ := key i x hx; ho i y a)
        (fun i x hx => by obtain ⟨y, a, rfl⟩ := key i x hx; exact .t _ _ (hr i y a))
      exact ⟨u, by simp [Instr.field, run_underlying ht, hf, asAgg, h1], h2⟩
    | _ => simp [evFld] at he
  | _ => simp [evFld] at he

theorem sim_bounds {P : Program} {len cap : Nat} {l h : Int} {lo hi : Option Value} (hcap : len ≤ cap) (hlo : lo = none ∧ l = 0 ∨ ∃ k, lo = some (.int k l)) (hhi : hi = none ∧ h = len ∨ ∃ k, hi = some (.int k h)) (h0 : 0 ≤ l) (h1 : l ≤ h) (h2 : h ≤ len) (b : Bool) :
    (Instr.sliceBounds b len cap lo hi none).run P w = .ok (l.toNat, h.toNat, cap) w := by
  have hb : ∀ (k : IntKind) (i : Int) (y : Nat) (code : BoundsCode), 0 ≤ i → i ≤ y → (Instr.sliceBound (.int k i) y code).run P w = .ok i.toNat w := by
    intro k i y code a b
    simp [Instr.sliceBound, asIntOf, a, b]
  rcases hhi with ⟨rfl, rfl⟩ | ⟨k, rfl⟩
  · rcases hlo with ⟨rfl, rfl⟩ | ⟨k', rfl⟩
    · simp [Instr.sliceBounds]
    · simp [Instr.sliceBounds, hb k' l len _ h0 h1]
  · rcases hlo with ⟨rfl, rfl⟩ | ⟨k', rfl⟩
    · simp [Instr.sliceBounds, hb k h cap _ (by omega) (by omega)]
    · simp [Instr.sliceBounds, hb k h cap _ (by omega) (by omega), hb k' l h.toNat _ h0 (by omega)]

/-- A bound as the engine has it, and as the model has it. -/
def BRel (x : Option Int) (v : Option Value) : Prop := (v = none ∧ x = none) ∨ ∃ k n, v = some (.int k n) ∧ x = some n

theorem BRel.lo {x : Option Int} {v : Option Value} (h : BRel x v) : v = none ∧ x.getD 0 = 0 ∨ ∃ k, v = some (.int k (x.getD 0)) := by
  rcases h with ⟨rfl, rfl⟩ | ⟨k, n, rfl, rfl⟩
  · exact .inl ⟨rfl, rfl⟩
  · exact .inr ⟨k, rfl⟩
theorem BRel.hi {x : Option Int} {v : Option Value} (d : Int) (h : BRel x v) : v = none ∧ x.getD d = d ∨ ∃ k, v = some (.int k (x.getD d)) := by
  rcases h with ⟨rfl, rfl⟩ | ⟨k, n, rfl, rfl⟩
  · exact .inl ⟨rfl, rfl⟩
  · exact .inr ⟨k, rfl⟩

theorem sim_sl {P : Program} {t e : TypeId} {z : Nat} {X v : V} {x : Value} {l h : Option Int} {lo hi : Option Value} (ht : P.underlying t = some (.slice e)) (hz : sizeT P e = some z) (hlo : BRel l lo) (hhi : BRel h hi)
    (he : evSl z (l.getD 0) h X = some v) (hx : RelV s I w X x) : ∃ u, (Instr.sliceAt t x lo hi none).run P w = .ok u w ∧ RelV s I w v u := by
  have run : ∀ (a : Option Addr) (len cap : Nat) (L H : Int), len ≤ cap → (lo = none ∧ L = 0 ∨ ∃ k, lo = some (.int k L)) → (hi = none ∧ H = len ∨ ∃ k, hi = some (.int k H)) → 0 ≤ L → L ≤ H → H ≤ len →
      (Instr.sliceAt t (.slice a len cap) lo hi none).run P w = .ok (.slice (if cap = L.toNat then a else a.map (·.add (L.toNat * z))) (H.toNat - L.toNat) (cap - L.toNat)) w := by
    intro a len cap L H hcap h1 h2 h3 h4 h5
    have hb := sim_bounds (P := P) (w := w) hcap h1 h2 h3 h4 h5 true
    simp [Instr.sliceAt, Instr.slice, run_underlying ht, run_sizeT hz, hb]
  have hlo' := hlo.lo
  cases hx with
  | slc m b len L o cap hL hl hm ho h0 htt =>
    simp only [evSl] at he
    split at he
    · rename_i hbq
      have hzz := beq_yes hbq
      subst hzz
      split at he
      · rename_i hc
        obtain ⟨c1, c2, c3⟩ := hc
        cases he
        refine ⟨_, run _ _ _ _ _ hl hlo' (hhi.hi len) c1 c2 c3, ?_⟩
        by_cases e1 : cap = (l.getD 0).toNat
        · rw [if_pos e1]
          refine .slc m _ _ L o _ hL (by omega) (by omega) (.inr (by omega)) ?_ ?_
          · intro e2; exact h0 (by omega)
          · rw [← htt, e1]; congr 1; omega
        · rw [if_neg e1]
          simp only [Option.map_some, Addr.add_mid]
          have hcap : cap ≠ 0 := by omega
          have ho' := ho.resolve_right hcap
          refine .slc m _ _ L _ _ hL (by omega) (by omega) (.inl ?_) ?_ ?_
          · rw [ho', Nat.add_mul]
          · intro e2
            have : b = 0 := by omega
            have e3 : (l.getD 0).toNat = 0 := by omega
            rw [h0 this, e3]; simp
          · rw [← htt]; congr 1; omega
      · cases he
    · cases he
  | t y u hy =>
    cases hy with
    | nils =>
      simp only [evSl] at he
      split at he
      · rename_i hc
        obtain ⟨c1, c2⟩ := hc
        cases he
        refine ⟨_, run none 0 0 0 0 (Nat.le_refl _) (by rcases hlo' with h | ⟨k, h⟩ <;> simp_all) (by rcases hhi.hi 0 with h | ⟨k, h⟩ <;> simp_all) (by omega) (by omega) (by omega), ?_⟩
        simpa using RelV.t (s := s) _ _ (RelT.nils (I := I) (w := w))
      · cases he
    | lst0 z' a cap ha =>
      simp only [evSl] at he
      split at he
      · split at he
        · rename_i hc
          obtain ⟨c1, c2, c3⟩ := hc
          simp only [List.length_nil] at c2 c3 he
          cases he
          refine ⟨_, run a 0 cap _ _ (Nat.zero_le _) hlo' (hhi.hi 0) c1 c2 c3, ?_⟩
          have e1 : (l.getD 0).toNat = 0 := by have : h.getD ((0 : Nat) : Int) ≤ 0 := c3; omega
          have e2 : (h.getD 0).toNat - (l.getD 0).toNat = 0 := by have : h.getD ((0 : Nat) : Int) ≤ 0 := c3; have h2 : h.getD 0 ≤ 0 := this; omega
          have e3 : cut ([] : List (List T)) (l.getD 0).toNat ((h.getD ((0 : Nat) : Int)).toNat - (l.getD 0).toNat) = [] := by simp [cut]
          rw [e3, e2]
          refine .t _ _ (.lst0 _ _ _ fun q => ?_)
          have : cap = 0 := ha (by
            split at q
            · exact q
            · cases a with
              | none => rfl
              | some a => simp at q)
          omega
        · cases he
      · cases he
    | lst z' es b o cap us hl hm hI hzz hc ho hr =>
      simp only [evSl] at he
      split at he
      · rename_i hbq
        have hz' := beq_yes hbq
        subst hz'
        split at he
        · rename_i hcc
          obtain ⟨c1, c2, c3⟩ := hcc
          cases he
          refine ⟨_, run _ _ _ _ _ hl hlo' (hhi.hi es.length) c1 c2 c3, ?_⟩
          have hlen : (cut es (l.getD 0).toNat ((h.getD es.length).toNat - (l.getD 0).toNat)).length = (h.getD es.length).toNat - (l.getD 0).toNat := cut_length _ _ _ (by omega)
          by_cases e1 : cap = (l.getD 0).toNat
          · rw [if_pos e1]
            have e2 : (h.getD es.length).toNat - (l.getD 0).toNat = 0 := by omega
            have e3 : cut es (l.getD 0).toNat ((h.getD es.length).toNat - (l.getD 0).toNat) = [] := List.eq_nil_of_length_eq_zero (by rw [hlen, e2])
            rw [e3, e2]
            exact .t _ _ (.lst0 _ _ _ (by first | (intro e; cases e; done) | exact ha | simp_all))
          · rw [if_neg e1]
            simp only [Option.map_some, Addr.add_mid]
            have g : ∀ (i : Nat) (e : List T), (cut es (l.getD 0).toNat ((h.getD es.length).toNat - (l.getD 0).toNat))[i]? = some e → es[(l.getD 0).toNat + i]? = some e := fun i e he => (cut_get _ _ _ _ _ he).2
            have := RelT.lst (I := I) (w := w) z' (cut es (l.getD 0).toNat ((h.getD es.length).toNat - (l.getD 0).toNat)) b (o + (l.getD 0).toNat * z') (cap - (l.getD 0).toNat) (fun i j => us ((l.getD 0).toNat + i) j)
              (by rw [hlen]; omega) (by omega) hI (fun i e he => hzz _ e (g i e he)) (fun i e j x he hx => by rw [← hc _ e j x (g i e he) hx]; congr 2; rw [Nat.add_mul]; omega)
              (fun i e j x he hx => ho _ e j x (g i e he) hx) (fun i e j x he hx => hr _ e j x (g i e he) hx)
            rw [hlen] at this
            exact .t _ _ this
        · cases he
      · cases he
    | _ => simp [evSl] at he
  | _ => simp [evSl] at he

theorem sim_sls {P : Program} {t : TypeId} {X v : V} {x : Value} {l h : Option Int} {lo hi : Option Value} (ht : P.underlying t = some .string) (hlo : BRel l lo) (hhi : BRel h hi)
    (he : evSls (l.getD 0) h X = some v) (hx : RelV s I w X x) : ∃ u, (Instr.sliceAt t x lo hi none).run P w = .ok u w ∧ RelV s I w v u := by
  cases hx with
  | t y u hy =>
    cases hy with
    | str c =>
      simp only [evSls] at he
      split at he
      · rename_i hc
        obtain ⟨c1, c2, c3⟩ := hc
        cases he
        have hb := sim_bounds (P := P) (w := w) (Nat.le_refl c.size) hlo.lo (hhi.hi c.size) c1 c2 c3 false
        exact ⟨_, by simp [Instr.sliceAt, Instr.slice, run_underlying ht, hb], .t _ _ (.str _)⟩
      · cases he
    | _ => simp [evSls] at he
  | _ => simp [evSls] at he

theorem rel_mkFn {f : Nat} {vs : List V} {us : Array Value} {g : Nat → Value} (hs : us.size = vs.length) (hc : ∀ (i : Nat) (x : V), vs[i]? = some x → us[i]? = some (g i)) (hr : ∀ (i : Nat) (x : V), vs[i]? = some x → RelV s I w x (g i)) :
    RelV s I w (mkFn f vs) (.func (.func f) #[] us) := by
  unfold mkFn
  cases h : allT vs with
  | none => exact .fnv f vs us g hs hc hr
  | some ts =>
    have e := allT_some h
    subst e
    have k : ∀ (i : Nat) (x : T), ts[i]? = some x → (ts.map V.t)[i]? = some (.t x) := fun i x hx => by simp [hx]
    exact .t _ _ (.fn f ts us g (by simpa using hs) (fun i x hx => hc i _ (k i x hx)) (fun i x hx => (hr i _ (k i x hx)).inv_t))

/-- Rows of cells. -/
def RelC (s : Nat → Option Loc) (I : Nat → Prop) (w : World) (cs : List V) (us : Array Value) : Prop :=
  us.size = cs.length ∧ ∀ (i : Nat) (v : V), cs[i]? = some v → ∃ u, us[i]? = some u ∧ RelV s I w v u ∧ u.oneCell' = true

theorem RelV.one {v : V} {u : Value} (h : RelV s I w v u) (h1 : Eng.one v = true) : u.oneCell' = true ∧ u.cells = #[u] := by
  cases h with
  | und => simp [Eng.one] at h1
  | t x u hx => cases hx <;> first | (simp [Eng.one] at h1; done) | exact ⟨rfl, rfl⟩
  | ptr => exact ⟨rfl, rfl⟩
  | slc => exact ⟨rfl, rfl⟩
  | fnv => exact ⟨rfl, rfl⟩
  | agg => simp [Eng.one] at h1
  | tup => simp [Eng.one] at h1

theorem RelV.cells {v : V} {u : Value} (h : RelV s I w v u) (h1 : v.cells.all Eng.one = true) : RelC s I w v.cells u.cells := by
  have single : Eng.one v = true → v.cells = [v] → RelC s I w v.cells u.cells := by
    intro ho hc
    obtain ⟨a, b⟩ := h.one ho
    rw [hc, b]
    refine ⟨rfl, fun i x hx => ?_⟩
    cases i with
    | zero => simp at hx; subst hx; exact ⟨u, rfl, h, a⟩
    | succ i => simp at hx
  cases h with
  | agg cs us vs hs hc ho hr => exact ⟨hs, fun i v hv => ⟨vs i, hc i v hv, hr i v hv, ho i v hv⟩⟩
  | t x u hx =>
    cases hx with
    | agg cs us vs hs hc ho hr =>
      refine ⟨by simpa [V.cells, Value.cells] using hs, fun i v hv => ?_⟩
      simp only [V.cells, List.getElem?_map] at hv
      obtain ⟨x, hx, rfl⟩ := Option.map_eq_some_iff.1 hv
      exact ⟨vs i, hc i x hx, .t _ _ (hr i x hx), ho i x hx⟩
    | _ => exact single (by simpa [V.cells] using h1) rfl
  | _ => exact single (by simpa [V.cells] using h1) rfl

theorem getElem?_spl {α : Type} (e : List α) (j : Nat) (xs : List α) (h : j + xs.length ≤ e.length) (i : Nat) : (spl e j xs)[i]? = if i < j then e[i]? else if i < j + xs.length then xs[i - j]? else e[i]? := by
  unfold spl
  rw [List.append_assoc, List.getElem?_append]
  have hl : (e.take j).length = j := by rw [List.length_take]; omega
  rw [hl]
  split
  · rw [List.getElem?_take]; simp [*]
  · rw [List.getElem?_append]
    split
    · rw [if_pos (by omega)]
    · rw [if_neg (by omega), List.getElem?_drop]
      congr 1; omega

theorem length_spl {α : Type} (e : List α) (j : Nat) (xs : List α) (h : j + xs.length ≤ e.length) : (spl e j xs).length = e.length := by
  unfold spl; simp only [List.length_append, List.length_take, List.length_drop]; omega

theorem setAll_get (off : Nat) : ∀ (vs : List Value) (k : Nat) (us : Array Value) (i : Nat), off + k + vs.length ≤ us.size →
    ((vs.zipIdx k).foldl (fun cs (p : Value × Nat) => cs.setIfInBounds (off + p.2) p.1) us).size = us.size ∧
    ((vs.zipIdx k).foldl (fun cs (p : Value × Nat) => cs.setIfInBounds (off + p.2) p.1) us)[i]? = if off + k ≤ i ∧ i < off + k + vs.length then vs[i - (off + k)]? else us[i]?
  | [], k, us, i, h => by
    refine ⟨rfl, ?_⟩
    rw [if_neg (by intro h; simp at h; omega)]; rfl
  | v :: r, k, us, i, h => by
    simp only [List.zipIdx_cons, List.foldl_cons]
    have hlen : (v :: r).length = r.length + 1 := rfl
    obtain ⟨h1, h2⟩ := setAll_get off r (k + 1) (us.setIfInBounds (off + k) v) i (by rw [Array.size_setIfInBounds]; omega)
    refine ⟨by rw [h1]; simp, ?_⟩
    rw [h2]
    by_cases e1 : i = off + k
    · subst e1
      rw [if_neg (by omega), if_pos (by omega)]
      simp [Array.getElem?_setIfInBounds]
      omega
    · by_cases e2 : off + (k + 1) ≤ i ∧ i < off + (k + 1) + r.length
      · rw [if_pos e2, if_pos (by omega)]
        have : i - (off + k) = (i - (off + (k + 1))) + 1 := by omega
        rw [this]; simp
      · rw [if_neg e2, if_neg (by omega)]
        rw [Array.getElem?_setIfInBounds, if_neg (by omega)]

theorem relC_spl {cs xs : List V} {us ys : Array Value} {off : Nat} (h : RelC s I w cs us) (hx : RelC s I w xs ys) (hl : off + xs.length ≤ cs.length) :
    RelC s I w (spl cs off xs) (ys.zipIdx.foldl (fun cs (p : Value × Nat) => cs.setIfInBounds (off + p.2) p.1) us) := by
  have e : ys.zipIdx.foldl (fun cs (p : Value × Nat) => cs.setIfInBounds (off + p.2) p.1) us = (ys.toList.zipIdx 0).foldl (fun cs (p : Value × Nat) => cs.setIfInBounds (off + p.2) p.1) us := by
    rw [← Array.foldl_toList, Array.toList_zipIdx]
  have hy : ys.toList.length = xs.length := by simpa using hx.1
  have hb : off + 0 + ys.toList.length ≤ us.size := by rw [hy, h.1]; omega
  refine ⟨by rw [e, (setAll_get off ys.toList 0 us 0 hb).1, length_spl _ _ _ hl, h.1], fun i v hv => ?_⟩
  rw [e, (setAll_get off ys.toList 0 us i hb).2]
  rw [getElem?_spl _ _ _ hl] at hv
  simp only [Nat.add_zero]
  split at hv
  · rw [if_neg (by omega)]; exact h.2 i v hv
  · split at hv
    · rw [if_pos (by omega)]
      obtain ⟨u, a, b⟩ := hx.2 _ v hv
      exact ⟨u, by simpa using a, b⟩
    · rw [if_neg (by omega)]; exact h.2 i v hv

theorem sim_fill {pl : List (Nat × Nat)} {ev : Operand → Value} {tm : Tm} (hop : ∀ X Y, trO X = some Y → RelV s I w (opd tm Y) (ev X)) : ∀ (parts : List (Nat × Operand)) (ps : List (Nat × Nat × O)) (cs cs' : List V) (us : Array Value),
    trParts pl parts = some ps → RelC s I w cs us → fillT cs (ps.map fun p => (p.1, p.2.1, opd tm p.2.2)) = some cs' →
    ∃ us', Instr.fill (fun i => pl[i]?) us (parts.map fun p => (p.1, ev p.2)) = some us' ∧ RelC s I w cs' us'
  | [], ps, cs, cs', us, hp, hc, hf => by
    simp [trParts] at hp; subst hp
    simp [fillT] at hf; subst hf
    exact ⟨us, rfl, hc⟩
  | (i, x) :: r, ps, cs, cs', us, hp, hc, hf => by
    simp only [trParts] at hp
    split at hp
    · rename_i p y ys h1 h2 h3
      cases hp
      simp only [List.map_cons, fillT] at hf
      split at hf
      · rename_i hok
        simp only [Bool.and_eq_true, decide_eq_true_eq] at hok
        obtain ⟨⟨ha, hb⟩, hone⟩ := hok
        have hrel := (hop x y h2).cells hone
        obtain ⟨us', h4, h5⟩ := sim_fill hop r ys _ cs' _ h3 (relC_spl (off := p.1) hc hrel (by omega)) hf
        refine ⟨us', ?_, h5⟩
        simp only [List.map_cons, Instr.fill, h1]
        have c1 : (ev x).cells.size = p.2 := by rw [hrel.1, ha]
        have c2 : ¬ (p.1 + (ev x).cells.size > us.size) := by rw [c1, hc.1]; omega
        rw [if_neg (by simp [c1]; rw [hc.1]; omega)]
        exact h4
      · cases hf
    · cases hp

theorem relC_vTs : ∀ {vs : List Value} {ts : List T}, vTs vs = some ts → ts.length = vs.length ∧ ∀ (i : Nat) (x : T), ts[i]? = some x → ∃ u, vs[i]? = some u ∧ RelT I w x u ∧ u.oneCell' = true
  | [], ts, h => by simp [vTs] at h; subst h; simp
  | v :: r, ts, h => by
    simp only [vTs] at h
    split at h
    · rename_i x xs h1 h2
      cases h
      obtain ⟨a, b⟩ := relC_vTs h2
      refine ⟨by simp [a], fun i y hy => ?_⟩
      cases i with
      | zero =>
        simp at hy; subst hy
        refine ⟨v, rfl, ?_⟩
        unfold vT1 at h1
        split at h1 <;> simp at h1 <;> subst h1 <;> first | exact ⟨.bool _, rfl⟩ | exact ⟨.int _ _, rfl⟩ | exact ⟨.str _, rfl⟩ | exact ⟨.nils, rfl⟩ | exact ⟨.nilp, rfl⟩ | exact ⟨.nilf, rfl⟩
      | succ i => simpa using b i y (by simpa using hy)
    · cases h

theorem relC_zero {P : Program} {t : TypeId} {zs : List T} (h : zeroT P t = some zs) : ∃ i z, P.info? t = some i ∧ i.zero = some z ∧ z.cells.size = zs.length ∧
    ∀ (i : Nat) (x : T), zs[i]? = some x → ∃ u, z.cells[i]? = some u ∧ RelT I w x u ∧ u.oneCell' = true := by
  unfold zeroT at h
  obtain ⟨z, hz, hv⟩ := Option.bind_eq_some_iff.1 h
  obtain ⟨i, hi, hz'⟩ := Option.bind_eq_some_iff.1 hz
  obtain ⟨a, b⟩ := relC_vTs (I := I) (w := w) hv
  exact ⟨i, z, hi, hz', by simpa using a.symm, fun j x hx => by simpa using b j x hx⟩

theorem relC_map {zs : List T} {us : Array Value} (hs : us.size = zs.length) (h : ∀ (i : Nat) (x : T), zs[i]? = some x → ∃ u, us[i]? = some u ∧ RelT I w x u ∧ u.oneCell' = true) : RelC s I w (zs.map .t) us := by
  refine ⟨by simpa using hs, fun i v hv => ?_⟩
  rw [List.getElem?_map] at hv
  obtain ⟨x, hx, rfl⟩ := Option.map_eq_some_iff.1 hv
  obtain ⟨u, a, b, c⟩ := h i x hx
  exact ⟨u, a, .t _ _ b, c⟩

theorem sim_bld {P : Program} {t : TypeId} {fs : Array Field} {pl : List (Nat × Nat)} {zs : List T} {a : Act} {tm : Tm} {parts : Array (Nat × Operand)} {ps : List (Nat × Nat × O)} {cs : List V} (ht : P.underlying t = some (.struct fs)) (hpl : places P fs = some pl) (hz : zeroT P t = some zs)
    (hp : trParts pl parts.toList = some ps) (hop : ∀ X Y, trO X = some Y → RelV s I w (opd tm Y) (a.eval X)) (hf : fillT (zs.map .t) (ps.map fun p => (p.1, p.2.1, opd tm p.2.2)) = some cs) :
    ∃ u, (Instr.build t (parts.map fun (i, x) => (i, a.eval x))).run P w = .ok u w ∧ RelV s I w (mkAgg cs) u := by
  obtain ⟨i, z, hi, hzv, hsz, hrel⟩ := relC_zero (I := I) (w := w) hz
  obtain ⟨us', h1, h2⟩ := sim_fill hop parts.toList ps _ cs z.cells hp (relC_map hsz hrel) hf
  refine ⟨.agg us', run_build w t _ us' ?_, rel_mkAgg (f := fun i => us'.getD i undef) h2.1 ?_ ?_ ?_⟩
  · have hpl' : fs.toList.mapM (fun f => (P.info? f.type).map fun i => (f.offset, i.size)) = some pl := hpl
    simp only [Program.built, hi, ht, hzv, hpl', Array.toList_map]
    simpa using h1
  all_goals
    intro i x hx
    obtain ⟨u, a, b, c⟩ := h2.2 i x hx
    have e : us'.getD i undef = u := by rw [Array.getD_eq_getD_getElem?, a]; rfl
    rw [e]
    first | exact a | exact c | exact b

theorem alloc_keep (w : World) (o : Obj) : w.grownBy (w.alloc o) none := World.grownBy_alloc w o none

theorem keep_I {I : Nat → Prop} {w w' : World} {row : Option Nat} (g : w.grownBy w' row) (hI : ∀ b, I b → b < w.heap.size) (hr : ∀ b, row = some b → ¬ I b) : ∀ b, I b → w'.heap[b]? = w.heap[b]? :=
  fun b hb => g.block b (hI b hb) fun e => hr b e.symm hb

/-- A new variable. -/
theorem own_box {h : Lk} (r : Rep s I w h) {cs : List V} {us : Array Value} {el : TypeId} (d : Nat) (hc : RelC s I w cs us) :
    FxOk s I w h d (.add (.box (V.woL d cs))) (upd s d ⟨w.heap.size, cs.length, cs.length⟩) (w.alloc (.cells us el)) := by
  refine ⟨_, rfl, alloc_keep w _, Nat.le_refl _, ?_⟩
  refine ⟨us, el, heap_alloc_new w _, hc.1, by rw [woL_length], by rw [woL_length]; exact hc.1, fun i v hv => ?_⟩
  rw [woL_get] at hv
  obtain ⟨y, hy, rfl⟩ := Option.map_eq_some_iff.1 hv
  obtain ⟨u, a, b, c⟩ := hc.2 i y hy
  exact ⟨u, a, (b.wo (fun n hn => upd_ne hn)).mono (fun _ h => h) (keep_I (alloc_keep w _) r.old (fun b hb => by cases hb)), c⟩

theorem woL_map_t (d : Nat) : ∀ cs : List T, V.woL d (cs.map .t) = cs.map .t
  | [] => rfl
  | x :: r => by simp [V.woL, V.wo, woL_map_t d r]

theorem sim_new {P : Program} {t : TypeId} {zs : List T} {h : Lk} (r : Rep s I w h) (d : Nat) (hz : zeroT P t = some zs) :
    ∃ u s' w', (Instr.alloc t true (.tuple #[])).run P w = .ok u w' ∧ FxOk s I w h d (.add (.box (zs.map .t))) s' w' ∧ RelV s' I w' (.ptr d 0 0) u := by
  obtain ⟨i, z, hi, hzv, hsz, hrel⟩ := relC_zero (I := I) (w := w) hz
  have ho := own_box r (el := t) d (relC_map (s := s) hsz hrel)
  rw [woL_map_t] at ho
  refine ⟨.pointer (some ⟨w.heap.size, 0, none⟩), _, _, ?_, ho, ?_⟩
  · simp [Instr.alloc, zeroValue, typeInfo, hi, hzv, newVar, newRow]
  · have := RelV.ptr (s := upd s d ⟨w.heap.size, (zs.map V.t).length, (zs.map V.t).length⟩) (I := I) (w := w.alloc (.cells z.cells t)) d 0 0 _ (upd_self s d _)
    simpa using this

theorem sim_box {P : Program} {t : TypeId} {g : Bool} {n : Nat} {X : V} {x : Value} {o : Ob} {h : Lk} (r : Rep s I w h) (d : Nat) (hev : evBox d g n X = some o) (hx : RelV s I w X x) :
    ∃ u s' w', (Instr.box t x).run P w = .ok u w' ∧ FxOk s I w h d (.add o) s' w' ∧ RelV s' I w' (.ptr d 0 0) u := by
  have key : ∀ cs : List V, RelC s I w cs x.cells → o = .box (V.woL d cs) → ∃ u s' w', (Instr.box t x).run P w = .ok u w' ∧ FxOk s I w h d (.add o) s' w' ∧ RelV s' I w' (.ptr d 0 0) u := by
    rintro cs hc rfl
    refine ⟨.pointer (some ⟨w.heap.size, 0, none⟩), _, _, ?_, own_box r (el := t) d hc, ?_⟩
    · simp [Instr.box, newVar, newRow]
    · have := RelV.ptr (s := upd s d ⟨w.heap.size, cs.length, cs.length⟩) (I := I) (w := w.alloc (.cells x.cells t)) d 0 0 _ (upd_self s d _)
      simpa using this
  have single : (match !g && one X with | true => some (Ob.box [X.wo d]) | false => none) = some o → X.cells = [X] → ∃ u s' w', (Instr.box t x).run P w = .ok u w' ∧ FxOk s I w h d (.add o) s' w' ∧ RelV s' I w' (.ptr d 0 0) u := by
    intro he hX
    split at he
    · rename_i hone
      cases he
      simp only [Bool.and_eq_true] at hone
      have hc := hx.cells (by rw [hX]; simpa using hone.2)
      rw [hX] at hc
      exact key _ hc rfl
    · cases he
  unfold evBox at hev
  split at hev
  · rename_i cs
    split at hev
    · cases hev
      cases hx with
      | t _ _ hy =>
        cases hy with
        | agg _ us f hs hc ho hr =>
          refine key (cs.map .t) ?_ (by rw [woL_map_t])
          exact relC_map (us := us) hs (fun i x hx => ⟨f i, hc i x hx, hr i x hx, ho i x hx⟩)
    · cases hev
  · rename_i cs
    split at hev
    · cases hev
      cases hx with
      | agg _ us f hs hc ho hr => exact key cs ⟨hs, fun i v hv => ⟨f i, hc i v hv, hr i v hv, ho i v hv⟩⟩ rfl
    · cases hev
  · rename_i h1 h2
    refine single hev ?_
    cases X with
    | t y => cases y <;> first | rfl | exact (h1 _ rfl).elim
    | agg cs => exact (h2 _ rfl).elim
    | _ => rfl

/-- A new row. -/
theorem own_row {h : Lk} (r : Rep s I w h) {z : Nat} {es : List (List T)} {us : Array Value} {ty : TypeId} (d : Nat) (hz : 0 < z) (hl : es.length * z ≤ us.size) (he : ∀ (i : Nat) (e : List T), es[i]? = some e → e.length = z)
    (hc : ∀ (i : Nat) (e : List T) (j : Nat) (x : T), es[i]? = some e → e[j]? = some x → ∃ u, us[i * z + j]? = some u ∧ RelT I w x u ∧ u.oneCell' = true) {w' : World} {b : Nat} (g : w.grownBy w' none) (hb : w.heap.size ≤ b) (hh : w'.heap[b]? = some (.cells us ty (0, 0))) :
    FxOk s I w h d (.add (.row ty z es)) (upd s d ⟨b, z, us.size⟩) w' :=
  ⟨_, rfl, g, hb, us, hh, rfl, rfl, hz, hl, he, fun i e j x h1 h2 => let ⟨u, a, b, c⟩ := hc i e j x h1 h2; ⟨u, a, b.mono (fun _ h => h) (keep_I g r.old (fun b hb => by cases hb)), c⟩⟩

theorem rel_new_slc {d b z tot n cap : Nat} (w' : World) (hn : n ≤ cap) (hm : cap ≤ maxLen) (ht : cap * z = tot) : RelV (upd s d ⟨b, z, tot⟩) I w' (.slc d z 0 n) (.slice (some ⟨b, 0, none⟩) n cap) := by
  have := RelV.slc (s := upd s d ⟨b, z, tot⟩) (I := I) (w := w') d 0 n ⟨b, z, tot⟩ 0 cap (upd_self s d _) hn hm (.inl (by simp)) (fun _ => rfl) (by simpa using ht)
  simpa using this

theorem le_maxLen {n : Nat} (h : n ≤ 140737488355328) : n ≤ maxLen := Nat.le_trans h (by decide)

theorem sim_mk {P : Program} {t e : TypeId} {z by_ : Nat} {zs : List T} {Y Z : V} {y x : Value} {l : Int} {h : Lk} (r : Rep s I w h) (d : Nat) (ht : P.underlying t = some (.slice e)) (hz : sizeT P e = some z) (hzp : 0 < z) (hb : bytesT P e = some by_) (hbp : 0 < by_) (hzs : zeroT P e = some zs) (hzl : zs.length = z)
    (h1 : Y.num? = some l) (h2 : Z.num? = some l) (hy : RelV s I w Y y) (hx : RelV s I w Z x) (h0 : 0 ≤ l) (hlim : l * by_ ≤ 140737488355328) :
    ∃ u s' w', (Instr.makeSlice t y x).run P w = .ok u w' ∧ FxOk s I w h d (.add (.row e z (List.replicate l.toNat zs))) s' w' ∧ RelV s' I w' (.slc d z 0 l.toNat) u := by
  obtain ⟨kl, rfl⟩ := num_rel h1 hy
  obtain ⟨kc, rfl⟩ := num_rel h2 hx
  obtain ⟨i, zv, hi, hzv, hsz, hrel⟩ := relC_zero (I := I) (w := w) hzs
  obtain ⟨n, rfl⟩ : ∃ n : Nat, l = n := ⟨l.toNat, by omega⟩
  have hsize : i.size = z := by simpa [sizeT, hi] using hz
  have hbytes : i.bytes = by_ := by simpa [bytesT, hi] using hb
  have hlim' : n * by_ ≤ 140737488355328 := by
    have h' : ((n * by_ : Nat) : Int) ≤ 140737488355328 := by rw [Int.natCast_mul]; exact hlim
    omega
  have hn : n ≤ 140737488355328 := Nat.le_trans (Nat.le_mul_of_pos_right n hbp) hlim'
  have hb2 : (i.bytes : Int) * (n : Int) ≤ 281474976710656 := by rw [hbytes, Int.mul_comm]; omega
  have hrun := run_make (P := P) w t e i zv ht hi hzv kl kc n n (by omega) (Int.le_refl _) hb2 (by omega)
  simp only [Int.toNat_natCast, hsize] at hrun
  have hms := size_madeCells zv.cells (n * z)
  refine ⟨_, _, _, hrun, own_row r d hzp (by rw [hms, List.length_replicate]; exact Nat.le_refl _) ?_ ?_ (alloc_keep w _) (Nat.le_refl _) (heap_alloc_new w _), ?_⟩
  · intro k e' he'
    rw [List.getElem?_replicate] at he'
    split at he' <;> simp at he'
    subst he'; exact hzl
  · intro k e' j x' he' hx'
    rw [List.getElem?_replicate] at he'
    split at he' <;> simp at he'
    rename_i hk
    subst he'
    have hj : j < z := by
      rcases Nat.lt_or_ge j zs.length with q | q
      · omega
      · rw [List.getElem?_eq_none q] at hx'; cases hx'
    obtain ⟨u, a, b, c⟩ := hrel j x' hx'
    refine ⟨u, ?_, b, c⟩
    simp only [Int.toNat_natCast] at hk
    have hlt : k * z + j < n * z := by
      have : (k + 1) * z ≤ n * z := Nat.mul_le_mul_right _ hk
      rw [Nat.add_mul] at this; omega
    have hmod : (k * z + j) % zv.cells.size = j := by rw [hsz, hzl, Nat.add_comm, Nat.add_mul_mod_self_right, Nat.mod_eq_of_lt hj]
    have hjz : j < zv.cells.size := by rw [hsz, hzl]; exact hj
    simp only [madeCells, Array.getElem?_map, Array.getElem?_range, hlt, if_true, Option.map_some, hmod]
    rw [getElem!_pos zv.cells j hjz]
    rw [Array.getElem?_eq_getElem hjz] at a
    exact a
  · simp only [Int.toNat_natCast]
    rw [hms]
    exact rel_new_slc _ (Nat.le_refl _) (le_maxLen hn) rfl

theorem rel_one_T {x : T} {u : Value} (h : RelT I w x u) (h1 : Eng.one (.t x) = true) : u.oneCell' = true ∧ u.cells = #[u] := by
  cases h <;> first | (simp [Eng.one] at h1; done) | exact ⟨rfl, rfl⟩

theorem elem_one {x : T} (h1 : Eng.one (.t x) = true) : elem x = [x] := by cases x <;> first | rfl | (simp [Eng.one] at h1; done)

theorem rel_elem1 {x : T} {u : Value} (h : RelT I w x u) (h1 : Eng.one (.t x) = true) : u.cells.size = (elem x).length ∧ ∀ (i : Nat) (y : T), (elem x)[i]? = some y → ∃ c, u.cells[i]? = some c ∧ RelT I w y c ∧ c.oneCell' = true := by
  obtain ⟨a, b⟩ := rel_one_T h h1
  rw [elem_one h1, b]
  refine ⟨rfl, fun i y hy => ?_⟩
  cases i with
  | zero => simp at hy; subst hy; exact ⟨u, rfl, h, a⟩
  | succ i => simp at hy

/-- The cells of a closed value. -/
theorem rel_elem {x : T} {u : Value} (h : RelT I w x u) (ht : ∀ cs, x ≠ .tup cs) : u.cells.size = (elem x).length ∧ ∀ (i : Nat) (y : T), (elem x)[i]? = some y → ∃ c, u.cells[i]? = some c ∧ RelT I w y c ∧ c.oneCell' = true := by
  have h0 := h
  cases h with
  | agg cs us f hs hc ho hr => exact ⟨hs, fun i y hy => ⟨f i, hc i y hy, hr i y hy, ho i y hy⟩⟩
  | tup cs => exact (ht _ rfl).elim
  | _ => exact rel_elem1 h0 rfl

theorem fill_seq (z : Nat) : ∀ (parts : List (Nat × Value)) (k : Nat) (us : Array Value), (∀ (i : Nat) (p : Nat × Value), parts[i]? = some p → p.1 = k + i ∧ p.2.cells.size = z) → (k + parts.length) * z ≤ us.size →
    ∃ us', Instr.fill (fun i => some (i * z, z)) us parts = some us' ∧ us'.size = us.size ∧ (∀ q, q < k * z → us'[q]? = us[q]?) ∧ ∀ (i : Nat) (p : Nat × Value) (j : Nat), parts[i]? = some p → j < z → us'[(k + i) * z + j]? = p.2.cells[j]?
  | [], k, us, _, _ => ⟨us, rfl, rfl, fun _ _ => rfl, fun i p j h => by simp at h⟩
  | (k0, v) :: r, k, us, hp, hl => by
    obtain ⟨hk0, hv⟩ := hp 0 (k0, v) rfl
    have hk0' : k = k0 := by simpa using hk0.symm
    subst hk0'
    simp only at hv
    have hlen : ((k, v) :: r : List (Nat × Value)).length = r.length + 1 := rfl
    rw [hlen] at hl
    have hexp : (k + (r.length + 1)) * z = k * z + z + r.length * z := by rw [Nat.add_mul, Nat.add_mul]; omega
    have hb : k * z + 0 + v.cells.toList.length ≤ us.size := by rw [Array.length_toList, hv]; omega
    have e : v.cells.zipIdx.foldl (fun cs (p : Value × Nat) => cs.setIfInBounds (k * z + p.2) p.1) us = (v.cells.toList.zipIdx 0).foldl (fun cs (p : Value × Nat) => cs.setIfInBounds (k * z + p.2) p.1) us := by
      rw [← Array.foldl_toList, Array.toList_zipIdx]
    have hs := (setAll_get (k * z) v.cells.toList 0 us 0 hb).1
    obtain ⟨us', h1, h2, h3, h4⟩ := fill_seq z r (k + 1) ((v.cells.toList.zipIdx 0).foldl (fun cs (p : Value × Nat) => cs.setIfInBounds (k * z + p.2) p.1) us)
      (fun i p hi => by have := hp (i + 1) p (by simpa using hi); exact ⟨by omega, this.2⟩) (by rw [hs]; rw [show k + 1 + r.length = k + (r.length + 1) by omega, hexp]; omega)
    have hk1 : (k + 1) * z = k * z + z := by rw [Nat.add_mul]; omega
    refine ⟨us', ?_, by rw [h2, hs], fun q hq => ?_, fun i p j hi hj => ?_⟩
    · simp only [Instr.fill]
      rw [if_neg (by simp [hv]; omega)]
      rw [← e] at h1
      exact h1
    · rw [h3 q (by omega), (setAll_get (k * z) v.cells.toList 0 us q hb).2, if_neg (by omega)]
    · cases i with
      | zero =>
        simp at hi; subst hi
        simp only [Nat.add_zero]
        rw [h3 _ (by omega), (setAll_get (k * z) v.cells.toList 0 us _ hb).2, if_pos (by rw [Array.length_toList, hv]; omega)]
        simp
      | succ i =>
        have := h4 i p j (by simpa using hi) hj
        rw [← this]; congr 1
        rw [show k + (i + 1) = k + 1 + i by omega]

theorem trOs_get {ev : Operand → Value} {tm : Tm} (hop : ∀ X Y, trO X = some Y → RelV s I w (opd tm Y) (ev X)) : ∀ {xs : List Operand} {ys : List O}, trOs xs = some ys → ys.length = xs.length ∧ ∀ (i : Nat) (Y : O), ys[i]? = some Y → ∃ X, xs[i]? = some X ∧ RelV s I w (opd tm Y) (ev X)
  | [], ys, h => by simp [trOs] at h; subst h; simp
  | x :: r, ys, h => by
    simp only [trOs] at h
    split at h
    · rename_i y ys' h1 h2
      cases h
      obtain ⟨a, b⟩ := trOs_get hop h2
      refine ⟨by simp [a], fun i Y hY => ?_⟩
      cases i with
      | zero => simp at hY; subst hY; exact ⟨x, rfl, hop x y h1⟩
      | succ i => simpa using b i Y (by simpa using hY)
    · cases h

theorem allT_not_tup {ts : List T} {z : Nat} (h : (ts.map fun t => (elem t).length).all (Nat.beq z) = true) : ∀ t ∈ ts, (elem t).length = z := by
  intro t ht
  rw [List.all_eq_true] at h
  exact (beq_yes (h _ (List.mem_map.2 ⟨t, ht, rfl⟩))).symm

theorem sim_bs {P : Program} {t e : TypeId} {z n : Nat} {parts : Array (Nat × Operand)} {ps : List O} {ts : List T} {h : Lk} {a : Act} {tm : Tm} (r : Rep s I w h) (d : Nat) (ht : P.underlying t = some (.slice e)) (hz : sizeT P e = some z) (hzp : 0 < z)
    (hidx : parts.toList.map (·.1) = List.range n) (hlim : n * z ≤ 16777216) (hzero : (zeroT P e).isSome = true) (hps : trOs (parts.toList.map (·.2)) = some ps) (hop : ∀ X Y, trO X = some Y → RelV s I w (opd tm Y) (a.eval X))
    (hts : allT (ps.map (opd tm)) = some ts) (htl : ts.length = n) (hel : (ts.map fun t => (elem t).length).all (Nat.beq z) = true) (hnt : ∀ t ∈ ts, ∀ cs, t ≠ .tup cs) :
    ∃ u s' w', (Instr.buildSlice t n (parts.map fun (i, x) => (i, a.eval x))).run P w = .ok u w' ∧ FxOk s I w h d (.add (.row e z (ts.map elem))) s' w' ∧ RelV s' I w' (.slc d z 0 n) u := by
  obtain ⟨zs, hzs⟩ := Option.isSome_iff_exists.1 hzero
  obtain ⟨i, zv, hi, hzv, hsz, -⟩ := relC_zero (I := I) (w := w) hzs
  have hmap := allT_some hts
  obtain ⟨hpl, hpr⟩ := trOs_get hop hps
  have hpn : parts.toList.length = n := by have := congrArg List.length hidx; simpa using this
  have hsize : i.size = z := by simpa [sizeT, hi] using hz
  have hrel : ∀ (k : Nat) (p : Nat × Operand), parts.toList[k]? = some p → p.1 = k ∧ ∃ x, ts[k]? = some x ∧ RelT I w x (a.eval p.2) := by
    intro k p hp
    have hk : k < n := by rw [← hpn]; exact (List.getElem?_eq_some_iff.1 hp).1
    refine ⟨?_, ?_⟩
    · have h1 : (parts.toList.map (·.1))[k]? = some p.1 := by simp [hp]
      rw [hidx, List.getElem?_range hk] at h1
      simpa using h1.symm
    · have hx : ts[k]? = some ts[k] := List.getElem?_eq_getElem (by omega)
      have hY : (ps.map (opd tm))[k]? = some (.t ts[k]) := by rw [hmap, List.getElem?_map, hx]; rfl
      rw [List.getElem?_map] at hY
      obtain ⟨Y, hY1, hY2⟩ := Option.map_eq_some_iff.1 hY
      obtain ⟨X, hX1, hX2⟩ := hpr k Y hY1
      rw [List.getElem?_map, hp] at hX1
      simp at hX1; subst hX1
      rw [hY2] at hX2
      exact ⟨_, hx, hX2.inv_t⟩
  have hcell : ∀ (k : Nat) (x : T), ts[k]? = some x → (elem x).length = z := fun k x hx => allT_not_tup hel x (List.mem_of_getElem? hx)
  have hbase : ((Array.range (n * z)).map (fun x => zv.cells[x % zv.cells.size]!)).size = n * z := by simp
  obtain ⟨us', h1, h2, -, h4⟩ := fill_seq z (parts.toList.map fun p => (p.1, a.eval p.2)) 0 ((Array.range (n * z)).map (fun x => zv.cells[x % zv.cells.size]!)) (fun k p hp => by
      rw [List.getElem?_map] at hp
      obtain ⟨q, hq, rfl⟩ := Option.map_eq_some_iff.1 hp
      obtain ⟨a1, x, a2, a3⟩ := hrel k q hq
      exact ⟨by simpa using a1, by rw [(rel_elem a3 (hnt x (List.mem_of_getElem? a2))).1]; exact hcell k x a2⟩) (by rw [hbase]; simp [hpn])
  have hus : us'.size = n * z := by rw [h2, hbase]
  have hcells : ∀ (k : Nat) (e' : List T) (j : Nat) (x : T), (ts.map elem)[k]? = some e' → e'[j]? = some x → ∃ u, us'[k * z + j]? = some u ∧ RelT I w x u ∧ u.oneCell' = true := by
    intro k e' j x he hx
    rw [List.getElem?_map] at he
    obtain ⟨y, hy, rfl⟩ := Option.map_eq_some_iff.1 he
    have hk : k < n := by rw [← htl]; exact (List.getElem?_eq_some_iff.1 hy).1
    have hj : j < z := by rw [← hcell k y hy]; exact (List.getElem?_eq_some_iff.1 hx).1
    obtain ⟨p, hp⟩ : ∃ p, parts.toList[k]? = some p := ⟨_, List.getElem?_eq_getElem (by omega)⟩
    obtain ⟨a1, y', a2, a3⟩ := hrel k p hp
    rw [hy] at a2; cases a2
    obtain ⟨c, c1, c2, c3⟩ := (rel_elem a3 (hnt y (List.mem_of_getElem? hy))).2 j x hx
    have := h4 k (p.1, a.eval p.2) j (by simp [hp]) hj
    simp only [Nat.zero_add] at this
    exact ⟨c, by rw [this]; exact c1, c2, c3⟩
  refine ⟨.slice (some ⟨w.heap.size, 0, none⟩) n n, _, w.alloc (.cells us' e), ?_, own_row r d hzp (by rw [hus]; simp [htl]) ?_ hcells (alloc_keep w _) (Nat.le_refl _) (heap_alloc_new w _), ?_⟩
  · have hlim2 : ¬ (2 ^ 24 < n * z) := by rw [show (2 : Nat) ^ 24 = 16777216 from rfl]; omega
    by_cases hn0 : n * z = 0
    · have hn : n = 0 := by rcases Nat.mul_eq_zero.1 hn0 with q | q <;> omega
      have hpe : parts = #[] := by
        have : parts.toList = [] := List.eq_nil_of_length_eq_zero (by rw [hpn, hn])
        exact Array.toList_eq_nil_iff.1 this
      subst hpe; subst hn
      simp only [List.map_nil, Instr.fill, Option.some.injEq] at h1
      subst h1
      simp [Instr.buildSlice, run_underlying ht, run_sizeT hz, Instr.fill, newRow, Array.range_zero']
    · simp only [Instr.buildSlice, Sem.run_bind, run_underlying ht, Result.andThen_ok, run_sizeT hz, Sem.run_ite, gt_iff_lt, hlim2, if_false, hn0, Sem.run_pure, zeroValue, typeInfo, run_program, hi, hzv]
      simp [h1, newRow]
  · intro k e' he
    rw [List.getElem?_map] at he
    obtain ⟨y, hy, rfl⟩ := Option.map_eq_some_iff.1 he
    exact hcell k y hy
  · rw [hus]
    exact rel_new_slc _ (Nat.le_refl _) (le_maxLen (by have : n ≤ n * z := Nat.le_mul_of_pos_right n hzp; omega)) rfl

/-- Where the elements that are appended lie. -/
theorem src_rows {h : Lk} (r : Rep s I w h) {z : Nat} (hz : 0 < z) {Y : V} {y : Value} {ys : List (List T)} (he : rows h z Y = some ys) (hy : RelV s I w Y y) :
    (ys = [] ∧ ∃ a c, y = .slice a 0 c) ∨ (∃ (a : Addr) (c : Nat) (news : List Value), y = .slice (some a) ys.length c ∧ news.length = ys.length * z ∧ (∀ (j : Nat) (u : Value), news[j]? = some u → w.cell? (a.add j) = some u) ∧ (∀ u ∈ news, u.oneCell' = true) ∧
      (∀ (i : Nat) (e : List T), ys[i]? = some e → e.length = z) ∧ ∀ (i : Nat) (e : List T) (j : Nat) (x : T), ys[i]? = some e → e[j]? = some x → ∃ u, news[i * z + j]? = some u ∧ RelT I w x u) := by
  have mk : ∀ (b o c : Nat) (g : Nat → Nat → Value), (∀ (i : Nat) (e : List T), ys[i]? = some e → e.length = z) →
      (∀ (i : Nat) (e : List T) (j : Nat) (x : T), ys[i]? = some e → e[j]? = some x → w.cell? ⟨b, o + (i * z + j), none⟩ = some (g i j) ∧ (g i j).oneCell' = true ∧ RelT I w x (g i j)) → y = .slice (some ⟨b, o, none⟩) ys.length c →
      (∃ (a : Addr) (c : Nat) (news : List Value), y = .slice (some a) ys.length c ∧ news.length = ys.length * z ∧ (∀ (j : Nat) (u : Value), news[j]? = some u → w.cell? (a.add j) = some u) ∧ (∀ u ∈ news, u.oneCell' = true) ∧
      (∀ (i : Nat) (e : List T), ys[i]? = some e → e.length = z) ∧ ∀ (i : Nat) (e : List T) (j : Nat) (x : T), ys[i]? = some e → e[j]? = some x → ∃ u, news[i * z + j]? = some u ∧ RelT I w x u) := by
    intro b o c g hl hg hyv
    have inv : ∀ k, k < ys.length * z → ∃ e x, ys[k / z]? = some e ∧ e[k % z]? = some x := by
      intro k hk
      have h1 : k / z < ys.length := by rw [Nat.div_lt_iff_lt_mul hz]; exact hk
      have h2 : k % z < z := Nat.mod_lt _ hz
      have he := List.getElem?_eq_getElem h1
      have hel := hl _ _ he
      exact ⟨_, _, he, List.getElem?_eq_getElem (by rw [hel]; exact h2)⟩
    refine ⟨⟨b, o, none⟩, c, (List.range (ys.length * z)).map fun k => g (k / z) (k % z), hyv, by simp, fun k u hu => ?_, fun u hu => ?_, hl, fun i e j x hi hx => ?_⟩
    · rw [List.getElem?_map] at hu
      obtain ⟨k', hk', rfl⟩ := Option.map_eq_some_iff.1 hu
      have hk : k < ys.length * z := by
        rcases Nat.lt_or_ge k (ys.length * z) with q | q
        · exact q
        · rw [List.getElem?_eq_none (by simpa using q)] at hk'; cases hk'
      rw [List.getElem?_range hk] at hk'; cases hk'
      obtain ⟨e, x, h1, h2⟩ := inv k hk
      have := (hg _ e _ x h1 h2).1
      rw [Addr.add_mid]
      rw [Nat.mul_comm, Nat.div_add_mod] at this
      exact this
    · obtain ⟨k, hk, rfl⟩ := List.mem_map.1 hu
      obtain ⟨e, x, h1, h2⟩ := inv k (by simpa using hk)
      exact (hg _ e _ x h1 h2).2.1
    · have hi' : i < ys.length := (List.getElem?_eq_some_iff.1 hi).1
      have hj : j < z := by rw [← hl i e hi]; exact (List.getElem?_eq_some_iff.1 hx).1
      have hlt : i * z + j < ys.length * z := by
        have : (i + 1) * z ≤ ys.length * z := Nat.mul_le_mul_right _ hi'
        rw [Nat.add_mul] at this; omega
      have e1 : (i * z + j) / z = i := by rw [Nat.mul_comm, Nat.mul_add_div hz, Nat.div_eq_of_lt hj]; rfl
      have e2 : (i * z + j) % z = j := by rw [Nat.mul_comm, Nat.mul_add_mod, Nat.mod_eq_of_lt hj]
      exact ⟨g i j, by rw [List.getElem?_map, List.getElem?_range hlt]; simp [e1, e2], (hg i e j x hi hx).2.2⟩
  cases hy with
  | t y' u hyt =>
    cases hyt with
    | nils => simp [rows] at he; subst he; exact .inl ⟨rfl, _, _, rfl⟩
    | emp a cap => simp [rows] at he; subst he; exact .inl ⟨rfl, _, _, rfl⟩
    | lst0 z' a cap ha =>
      simp only [rows] at he
      split at he
      · cases he; exact .inl ⟨rfl, _, _, rfl⟩
      · cases he
    | lst z' es b o cap us hl hm hI hzz hc ho hr =>
      simp only [rows] at he
      split at he
      · rename_i hbq
        have := beq_yes hbq; subst this
        cases he
        exact .inr (mk b o cap us hzz (fun i e j x h1 h2 => ⟨by rw [← Nat.add_assoc]; exact hc i e j x h1 h2, ho i e j x h1 h2, hr i e j x h1 h2⟩) rfl)
      · cases he
    | _ => simp [rows] at he
  | slc m i len L o cap hL hl hm ho h0 ht =>
    simp only [rows] at he
    cases hh : h m with
    | none => simp [hh] at he
    | some ob =>
      rw [hh] at he
      cases ob with
      | box cs => simp at he
      | row ty z' es =>
        simp only at he
        split at he
        · rename_i hbq
          simp only [Bool.and_eq_true] at hbq
          obtain ⟨hb1, hb2⟩ := hbq
          have := beq_yes hb1; subst this
          split at he
          · rename_i hle
            simp only [decide_eq_true_eq] at hle
            cases he
            obtain ⟨C, h1, h2, h3, h4, h5, h6, h7⟩ := (r.own m _ L hh hL).1
            have hlen := cut_length es i len hle
            by_cases hn : len = 0
            · subst hn
              exact .inl ⟨List.eq_nil_of_length_eq_zero hlen, _, _, rfl⟩
            · have hcap : cap ≠ 0 := by omega
              have ho' := ho.resolve_right hcap
              refine .inr (mk L.b o cap (fun a b => C.getD ((i + a) * z' + b) undef) (fun k e hk => h6 _ e (cut_get _ _ _ _ _ hk).2) (fun k e j x hk hx => ?_) (by rw [hlen]))
              obtain ⟨u, a, b, c⟩ := h7 _ e j x (cut_get _ _ _ _ _ hk).2 hx
              have e1 : C.getD ((i + k) * z' + j) undef = u := by rw [Array.getD_eq_getD_getElem?, a]; rfl
              rw [e1]
              refine ⟨?_, c, b⟩
              rw [ho', h3]
              have e2 : i * z' + (k * z' + j) = (i + k) * z' + j := by rw [Nat.add_mul]; omega
              rw [e2]
              simp [World.cell?, h1, a]
          · cases he
        · cases he
  | _ => simp [rows] at he

theorem run_append_zero {P : Program} {t e : TypeId} (ht : P.underlying t = some (.slice e)) {z : Nat} (hz : sizeT P e = some z) (ty : TypeId) (b a : Option Addr) (n c c' : Nat) (hn : n ≤ c) :
    (Builtin.append_ #[t, t] ty #[.slice b n c, .slice a 0 c']).run P w = .ok (.slice b n c) w := by
  cases b <;> cases a <;> simp [Builtin.append_, run_underlying ht, run_sizeT hz, Builtin.lenOf, hn, Builtin.firstCells, loadCells, loadCellsFrom, storeCells]

/-- Elements, and where their cells lie. -/
def Laid (I : Nat → Prop) (w : World) (z : Nat) (es : List (List T)) (xs : List Value) : Prop :=
  xs.length = es.length * z ∧ (∀ u ∈ xs, u.oneCell' = true) ∧ (∀ (i : Nat) (e : List T), es[i]? = some e → e.length = z) ∧ ∀ (i : Nat) (e : List T) (j : Nat) (x : T), es[i]? = some e → e[j]? = some x → ∃ u, xs[i * z + j]? = some u ∧ RelT I w x u

theorem laid_append {z : Nat} {es fs : List (List T)} {xs ys : List Value} (h : Laid I w z es xs) (k : Laid I w z fs ys) : Laid I w z (es ++ fs) (xs ++ ys) := by
  obtain ⟨h1, h2, h3, h4⟩ := h
  obtain ⟨k1, k2, k3, k4⟩ := k
  refine ⟨by simp [h1, k1, Nat.add_mul], fun u hu => (List.mem_append.1 hu).elim (h2 u) (k2 u), fun i e he => ?_, fun i e j x he hx => ?_⟩
  · rw [List.getElem?_append] at he
    split at he
    · exact h3 i e he
    · exact k3 _ e he
  · rw [List.getElem?_append] at he
    split at he
    · rename_i hi
      obtain ⟨u, a, b⟩ := h4 i e j x he hx
      have hj : j < z := by rw [← h3 i e he]; exact (List.getElem?_eq_some_iff.1 hx).1
      refine ⟨u, ?_, b⟩
      rw [List.getElem?_append_left (by rw [h1]; have : (i + 1) * z ≤ es.length * z := Nat.mul_le_mul_right _ hi; rw [Nat.add_mul] at this; omega)]
      exact a
    · rename_i hi
      obtain ⟨u, a, b⟩ := k4 _ e j x he hx
      refine ⟨u, ?_, b⟩
      have hge : es.length * z ≤ i * z := Nat.mul_le_mul_right _ (by omega)
      rw [List.getElem?_append_right (by rw [h1]; omega), h1, show i * z + j - es.length * z = (i - es.length) * z + j by rw [Nat.sub_mul]; omega]
      exact a

theorem own_laid {z : Nat} {es : List (List T)} {xs : List Value} {us : Array Value} (h : Laid I w z es xs) (hp : us.toList.take (es.length * z) = xs) :
    ∀ (i : Nat) (e : List T) (j : Nat) (x : T), es[i]? = some e → e[j]? = some x → ∃ u, us[i * z + j]? = some u ∧ RelT I w x u ∧ u.oneCell' = true := by
  intro i e j x he hx
  obtain ⟨u, a, b⟩ := h.2.2.2 i e j x he hx
  refine ⟨u, ?_, b, h.2.1 u (List.mem_of_getElem? a)⟩
  rw [← hp, List.getElem?_take] at a
  split at a
  · simpa using a
  · cases a

theorem sim_app {P : Program} {t e : TypeId} {z by_ : Nat} {zs : List T} {X Y v : V} {x y : Value} {ys : List (List T)} {h : Lk} {ef : Ef} (r : Rep s I w h) (d : Nat) (ty : TypeId) (ht : P.underlying t = some (.slice e)) (hz : sizeT P e = some z) (hzp : 0 < z) (hb : bytesT P e = some by_) (hbp : 0 < by_)
    (hzs : zeroT P e = some zs) (hzl : zs.length = z) (hys : rows h z Y = some ys) (hev : evApp d e z by_ h ys X = some (v, ef)) (hx : RelV s I w X x) (hy : RelV s I w Y y) :
    ∃ u s' w', (Builtin.append_ #[t, t] ty #[x, y]).run P w = .ok u w' ∧ FxOk s I w h d ef s' w' ∧ RelV s' I w' v u := by
  obtain ⟨i, zv, hi, hzv, hsz, -⟩ := relC_zero (I := I) (w := w) hzs
  have hsize : i.size = z := by simpa [sizeT, hi] using hz
  have hbytes : i.bytes = by_ := by simpa [bytesT, hi] using hb
  have hsrc := src_rows r hzp hys hy
  have small : ∀ n : Nat, n * by_ ≤ 140737488355328 → n ≤ 140737488355328 := fun n hn => Nat.le_trans (Nat.le_mul_of_pos_right n hbp) hn
  have zero : ys = [] → ∀ b n c, x = .slice b n c → n ≤ c → ∃ a' c', y = .slice a' 0 c' ∧ (Builtin.append_ #[t, t] ty #[x, y]).run P w = .ok x w := by
    rintro rfl b n c rfl hn
    rcases hsrc with ⟨-, a', c', rfl⟩ | ⟨a', c', news, rfl, -⟩
    · exact ⟨_, _, rfl, run_append_zero ht hz ty b a' n c c' hn⟩
    · exact ⟨_, _, rfl, run_append_zero ht hz ty b _ n c c' hn⟩
  have fresh : ∀ (us : Array Value) (w' : World) (es : List (List T)) (xs : List Value) (b cap : Nat), Laid I w z es xs → us.toList.take (es.length * z) = xs → es.length ≤ cap → cap ≤ maxLen → us.size = cap * z → w.grownBy w' none → w.heap.size ≤ b → w'.heap[b]? = some (.cells us e (0, 0)) →
      FxOk s I w h d (.add (.row e z es)) (upd s d ⟨b, z, us.size⟩) w' ∧ RelV (upd s d ⟨b, z, us.size⟩) I w' (.slc d z 0 es.length) (.slice (some ⟨b, 0, none⟩) es.length cap) := by
    intro us w' es xs b cap hla htk hc hm hus g hbb hh
    have hle : es.length * z ≤ us.size := by rw [hus]; exact Nat.mul_le_mul_right _ hc
    exact ⟨own_row r d hzp hle hla.2.2.1 (own_laid hla htk) g hbb hh, rel_new_slc w' hc hm hus.symm⟩
  cases hx with
  | t x' u hxt =>
    cases hxt with
    | nils =>
      simp only [evApp] at hev
      cases ys with
      | nil =>
        simp at hev
        obtain ⟨rfl, rfl⟩ := hev
        obtain ⟨a', c', -, hrun⟩ := zero rfl none 0 0 rfl (Nat.le_refl _)
        exact ⟨_, s, w, hrun, ⟨rfl, rfl⟩, .t _ _ .nils⟩
      | cons y0 yr =>
        simp only at hev
        split at hev
        · rename_i hlim
          cases hev
          rcases hsrc with ⟨hc, -⟩ | ⟨a', c', news, rfl, hnl, hn, h1, hel, hnr⟩
          · cases hc
          · have hsm := small _ hlim
            have hrun := run_append_nil (P := P) w t ty e i zv ht hi hzv a' (y0 :: yr).length c' news (by rw [hnl, hsize]) hn (by simp) (by omega) (by rw [hbytes]; omega)
            have hge := grownCap_ge w (y0 :: yr).length 0 e
            have hcm := grownCap_le_maxLen w (y0 :: yr).length 0 e (le_maxLen hsm)
            have hla : Laid I w z (y0 :: yr) news := ⟨hnl, h1, hel, hnr⟩
            have hus : (news.toArray ++ Builtin.zeroCells zv.cells (grownCap w (y0 :: yr).length 0 e - (y0 :: yr).length)).size = grownCap w (y0 :: yr).length 0 e * z := by
              simp only [Array.size_append, List.size_toArray, size_zeroCells, hnl, hsz, hzl, ← Nat.add_mul]
              congr 1; omega
            have := fresh _ (w.drew.alloc (.cells (news.toArray ++ Builtin.zeroCells zv.cells (grownCap w (y0 :: yr).length 0 e - (y0 :: yr).length)) e)) (y0 :: yr) news w.heap.size _ hla (by simp only [Array.toList_append]; rw [← hnl]; exact List.take_left) hge hcm hus
              ⟨rfl, rfl, rfl, by simp, fun k hk _ => heap_alloc_old w.drew _ hk⟩ (Nat.le_refl _) (heap_alloc_new w.drew _)
            exact ⟨_, _, _, hrun, this.1, this.2⟩
        · cases hev
    | lst0 z' a cap ha =>
      simp only [evApp] at hev
      cases ys with
      | nil =>
        simp at hev
        obtain ⟨rfl, rfl⟩ := hev
        obtain ⟨a', c', -, hrun⟩ := zero rfl a 0 cap rfl (Nat.zero_le _)
        exact ⟨_, s, w, hrun, ⟨rfl, rfl⟩, .t _ _ (.lst0 _ _ _ (by first | (intro e; cases e; done) | exact ha | simp_all))⟩
      | cons y0 yr => simp at hev
    | lst z' es b o cap us hl hm hI hzz hc ho hr =>
      simp only [evApp] at hev
      cases ys with
      | nil =>
        simp at hev
        obtain ⟨rfl, rfl⟩ := hev
        obtain ⟨a', c', -, hrun⟩ := zero rfl _ _ cap rfl hl
        exact ⟨_, s, w, hrun, ⟨rfl, rfl⟩, .t _ _ (.lst z' es b o cap us hl hm hI hzz hc ho hr)⟩
      | cons y0 yr => simp at hev
    | _ => simp [evApp] at hev
  | slc m k len L o cap hL hl hm ho h0 htt =>
    cases k with
    | succ k => simp [evApp] at hev
    | zero =>
      simp only [evApp] at hev
      cases hh : h m with
      | none => simp [hh] at hev
      | some ob =>
        rw [hh] at hev
        cases ob with
        | box cs => simp at hev
        | row ty' z' es =>
          simp only at hev
          split at hev
          · rename_i hbq
            simp only [Bool.and_eq_true] at hbq
            obtain ⟨⟨q1, q2⟩, q3⟩ := hbq
            have := beq_yes q1; subst this
            have := beq_yes q2; subst this
            have hLz := beq_yes q3
            split at hev
            · rename_i hlim
              obtain ⟨hlen, hlim⟩ := hlim
              cases hev
              obtain ⟨C, c1, c2, c3, c4, c5, c6, c7⟩ := (r.own m _ L hh hL).1
              have ho0 := h0 rfl
              subst ho0
              have hcapz : cap * z' = C.size := by rw [c2, ← htt, hLz]; simp
              have hlC : len * z' ≤ C.size := by rw [← hcapz]; exact Nat.mul_le_mul_right _ hl
              have hold : Laid I w z' (es.take len) (C.toList.take (len * z')) := by
                refine ⟨?_, ?_, fun i e he => ?_, fun i e j x he hx => ?_⟩
                · rw [List.length_take, List.length_take, Array.length_toList]
                  rw [Nat.min_eq_left hlC, Nat.min_eq_left hlen]
                · intro u hu
                  obtain ⟨q, hq⟩ := List.mem_iff_getElem?.1 hu
                  rw [List.getElem?_take] at hq
                  split at hq
                  · rename_i hq'
                    have hi1 : q / z' < len := by rw [Nat.div_lt_iff_lt_mul c4]; exact hq'
                    have he := List.getElem?_eq_getElem (l := es) (i := q / z') (by omega)
                    have hj : q % z' < es[q / z'].length := by rw [c6 _ _ he]; exact Nat.mod_lt _ c4
                    obtain ⟨u', a, b, c⟩ := c7 (q / z') _ (q % z') _ he (List.getElem?_eq_getElem hj)
                    rw [Nat.mul_comm, Nat.div_add_mod] at a
                    have : C.toList[q]? = some u' := by simpa using a
                    rw [this] at hq; cases hq; exact c
                  · cases hq
                · rw [List.getElem?_take] at he; split at he
                  · exact c6 i e he
                  · cases he
                · rw [List.getElem?_take] at he; split at he
                  · rename_i hi'
                    obtain ⟨u, a, b, c⟩ := c7 i e j x he hx
                    have hj : j < z' := by rw [← c6 i e he]; exact (List.getElem?_eq_some_iff.1 hx).1
                    refine ⟨u, ?_, b⟩
                    rw [List.getElem?_take, if_pos (by have : (i + 1) * z' ≤ len * z' := Nat.mul_le_mul_right _ hi'; rw [Nat.add_mul] at this; omega)]
                    simpa using a
                  · cases he
              have hne : h m ≠ none := by simp [hh]
              have hlt : (es.take len).length = len := by rw [List.length_take]; omega
              have hL' : ∀ (us : Array Value) (w' : World) (b cap' : Nat), w.grownBy w' (some L.b) → (b = L.b ∨ w.heap.size ≤ b) → w'.heap[b]? = some (.cells us ty' (0, 0)) → us.size = cap' * z' → len + ys.length ≤ cap' → cap' ≤ maxLen → Laid I w z' ys ((us.toList.take ((len + ys.length) * z')).drop (len * z')) → (us.toList.take (len * z')) = C.toList.take (len * z') →
                  FxOk s I w h d (.mov m (.row ty' z' (es.take len ++ ys))) (upd s d ⟨b, z', us.size⟩) w' ∧ RelV (upd s d ⟨b, z', us.size⟩) I w' (.slc d z' 0 (len + ys.length)) (.slice (some ⟨b, 0, none⟩) (len + ys.length) cap') := by
                intro us w' b cap' g hbb hheap hus hc' hm' hnew hpre
                have hle : (len + ys.length) * z' ≤ us.size := by rw [hus]; exact Nat.mul_le_mul_right _ hc'
                have hla := laid_append hold hnew
                have htl : us.toList.take ((len + ys.length) * z') = C.toList.take (len * z') ++ (us.toList.take ((len + ys.length) * z')).drop (len * z') := by
                  have q := List.take_append_drop (len * z') (us.toList.take ((len + ys.length) * z'))
                  rw [List.take_take, Nat.min_eq_left (Nat.mul_le_mul_right _ (Nat.le_add_right _ _)), hpre] at q
                  exact q.symm
                have hln : (es.take len ++ ys).length = len + ys.length := by rw [List.length_append, hlt]
                have hcells := own_laid hla (us := us) (by rw [hln]; exact htl)
                have hI := keep_I g r.old (fun b hb => by cases hb; exact (r.own m _ L hh hL).2)
                refine ⟨⟨L, ⟨b, z', us.size⟩, rfl, hL, hne, g, hbb, us, hheap, rfl, rfl, hzp, by rw [hln]; exact hle, hla.2.2.1, fun i e j x he hx => ?_⟩, rel_new_slc w' hc' hm' hus.symm⟩
                obtain ⟨u, a, b, c⟩ := hcells i e j x he hx
                exact ⟨u, a, b.mono (fun _ h => h) hI, c⟩
              have hsm := small _ hlim
              rcases hsrc with ⟨rfl, a', c', rfl⟩ | ⟨a', c', news, rfl, hnl, hn, h1, hel, hnr⟩
              · have hrun := run_append_zero (P := P) (w := w) ht hz ty (some ⟨L.b, 0, none⟩) a' len cap c' hl
                have := hL' C w L.b cap ⟨rfl, rfl, rfl, Nat.le_refl _, fun _ _ _ => rfl⟩ (.inl rfl) c1 hcapz.symm (by simpa using hl) hm (by
                  refine ⟨by simp, fun u hu => ?_, fun i e he => by simp at he, fun i e j x he => by simp at he⟩
                  simp at hu) rfl
                simp only [List.length_nil, Nat.add_zero] at this ⊢
                exact ⟨_, _, _, hrun, this.1, this.2⟩
              · by_cases hroom : len + ys.length ≤ cap
                · have hown : w.ownsRow 0 ty' z' (.slice (some ⟨L.b, 0, none⟩) len cap) len (C.toList.take (len * z')) :=
                    ⟨by rw [List.length_take, Array.length_toList, Nat.min_eq_left hlC], .inr ⟨L.b, cap, C, rfl, Nat.zero_le _, c1, hl, hm, hcapz.symm, rfl⟩⟩
                  obtain ⟨w', hrun, hown', hg⟩ := run_append_fits (P := P) w 0 t ty ty' i z' ht hi hsize L.b len cap _ hown a' ys.length c' news hnl hn h1 hroom
                  rcases hown'.2 with ⟨hbad, -⟩ | ⟨g', cap', cur, hv, -, hgh, hnc, hcm, hcs, htake⟩
                  · simp at hbad
                  · simp only [Value.slice.injEq, Option.some.injEq, Addr.mk.injEq, and_true, true_and] at hv
                    obtain ⟨rfl, rfl⟩ := hv
                    have hpl : (C.toList.take (len * z')).length = len * z' := hown.1
                    have := hL' cur w' L.b cap hg (.inl rfl) hgh hcs hnc hcm (by rw [htake, List.drop_append_of_le_length (by rw [hpl]; exact Nat.le_refl _), List.drop_of_length_le (by rw [hpl]; exact Nat.le_refl _)]; exact ⟨hnl, h1, hel, hnr⟩)
                      (by
                        have := congrArg (List.take (len * z')) htake
                        rw [List.take_take, Nat.min_eq_left (Nat.mul_le_mul_right _ (Nat.le_add_right _ _)), List.take_left' hpl] at this
                        exact this)
                    exact ⟨_, _, _, hrun, this.1, this.2⟩
                · have holds : ∀ (j : Nat) (u : Value), (C.toList.take (len * z'))[j]? = some u → w.cell? ((⟨L.b, 0, none⟩ : Addr).add j) = some u := by
                    intro j u hj
                    rw [List.getElem?_take] at hj
                    split at hj
                    · rw [Addr.add_mid]; simp [World.cell?, c1]; simpa using hj
                    · cases hj
                  have hpl : (C.toList.take (len * z')).length = len * z' := by rw [List.length_take, Array.length_toList, Nat.min_eq_left hlC]
                  have hrun := run_append_grow (P := P) w t ty ty' i zv ht hi hzv ⟨L.b, 0, none⟩ len cap _ (by rw [hpl, hsize]) holds a' ys.length c' news (by rw [hnl, hsize]) hn (by omega) (by omega) (growslice_fits (by omega) (by rw [hbytes]; exact hlim))
                  have hge := grownCap_ge w (len + ys.length) cap ty'
                  have hcm := grownCap_le_maxLen w (len + ys.length) cap ty' (le_maxLen hsm)
                  have hus : ((C.toList.take (len * z')).toArray ++ news.toArray ++ Builtin.zeroCells zv.cells (grownCap w (len + ys.length) cap ty' - (len + ys.length))).size = grownCap w (len + ys.length) cap ty' * z' := by
                    simp only [Array.size_append, List.size_toArray, size_zeroCells, hnl, hpl, hsz, hzl, ← Nat.add_mul]
                    congr 1; omega
                  have hpn : (C.toList.take (len * z') ++ news).length = (len + ys.length) * z' := by rw [List.length_append, hpl, hnl, Nat.add_mul]
                  have := hL' _ (w.drew.alloc (.cells ((C.toList.take (len * z')).toArray ++ news.toArray ++ Builtin.zeroCells zv.cells (grownCap w (len + ys.length) cap ty' - (len + ys.length))) ty')) w.heap.size _
                    ⟨rfl, rfl, rfl, by simp, fun k hk _ => heap_alloc_old w.drew _ hk⟩ (.inr (Nat.le_refl _)) (heap_alloc_new w.drew _) hus hge hcm
                    (by
                      simp only [Array.toList_append]
                      rw [← hpn, List.take_left, List.drop_append_of_le_length (by rw [hpl]; exact Nat.le_refl _), List.drop_of_length_le (by rw [hpl]; exact Nat.le_refl _)]
                      exact ⟨hnl, h1, hel, hnr⟩)
                    (by
                      simp only [Array.toList_append, List.append_assoc]
                      rw [List.take_append_of_le_length (by rw [hpl]; exact Nat.le_refl _), List.take_of_length_le (by rw [hpl]; exact Nat.le_refl _)])
                  exact ⟨_, _, _, hrun, this.1, this.2⟩
            · cases hev
          · cases hev
  | _ => simp [evApp] at hev

theorem run_storeVar {P : Program} {t : TypeId} {n : Nat} (hn : sizeT P t = some n) {b o : Nat} {C : Array Value} {el : TypeId} (hb : w.heap[b]? = some (.cells C el (0, 0))) {v : Value} (hv : v.cells.size = n) (hl : o + n ≤ C.size) (h1 : ∀ u ∈ v.cells.toList, u.oneCell' = true) :
    (Instr.storeAt t (.pointer (some ⟨b, o, none⟩)) v).run P w = .ok () (w.setRow b (C.toList.take o ++ v.cells.toList ++ C.toList.drop (o + v.cells.toList.length)).toArray) := by
  have hst := run_storeCells_at P b o el v.cells.toList 0 C w hb (by rw [Array.length_toList, hv]; omega) h1
  simp only [Nat.add_zero] at hst
  have hc : ¬ (v.cells.size ≠ n) := by simp [hv]
  simp [Instr.storeAt, Instr.sureAddr, storeVar, run_sizeT hn, hv, hst]

theorem grown_setRow {b : Nat} {cs : Array Value} : w.grownBy (w.setRow b cs) (some b) :=
  ⟨rfl, rfl, rfl, by simp, fun k _ hk => setRow_other w b k cs (fun e => hk (by rw [e]))⟩

theorem spl_get {C : Array Value} {vs : List Value} {o : Nat} (hl : o + vs.length ≤ C.size) (i : Nat) : (C.toList.take o ++ vs ++ C.toList.drop (o + vs.length)).toArray[i]? = if i < o then C[i]? else if i < o + vs.length then vs[i - o]? else C[i]? := by
  have := getElem?_spl C.toList o vs (by simpa using hl) i
  unfold spl at this
  simpa using this

theorem spl_size {C : Array Value} {vs : List Value} {o : Nat} (hl : o + vs.length ≤ C.size) : (C.toList.take o ++ vs ++ C.toList.drop (o + vs.length)).toArray.size = C.size := by
  have := length_spl C.toList o vs (by simpa using hl)
  unfold spl at this
  simpa using this

theorem sim_st {P : Program} {t : TypeId} {n : Nat} {X Y : V} {x y : Value} {h : Lk} {ef : Ef} (r : Rep s I w h) (d : Nat) (hn : sizeT P t = some n) (hev : evSt h n Y X = some ef) (hx : RelV s I w X x) (hy : RelV s I w Y y) :
    ∃ s' w', (Instr.storeAt t x y).run P w = .ok () w' ∧ FxOk s I w h d ef s' w' := by
  cases hx with
  | ptr m i j L hL =>
    simp only [evSt] at hev
    cases hh : h m with
    | none => simp [hh] at hev
    | some ob =>
      rw [hh] at hev
      have hne : h m ≠ none := by simp [hh]
      have ow := (r.own m _ L hh hL)
      cases ob with
      | box cs =>
        obtain ⟨⟨C, el, c1, c2, c3, c4, c5⟩, hnI⟩ := ow
        cases i with
        | succ i => simp at hev
        | zero =>
          simp only [Nat.zero_mul, Nat.zero_add] at hev ⊢
          split at hev
          · rename_i hok
            simp only [Bool.and_eq_true, decide_eq_true_eq] at hok
            obtain ⟨⟨k1, k2⟩, k3⟩ := hok
            cases hev
            have hc := hy.cells k3
            have hyn : y.cells.toList.length = n := by rw [Array.length_toList, hc.1, k1]
            have h1 : ∀ u ∈ y.cells.toList, u.oneCell' = true := by
              intro u hu
              obtain ⟨q, hq⟩ := List.mem_iff_getElem?.1 hu
              have hql : q < Y.cells.length := by rw [← hc.1, ← Array.length_toList]; exact (List.getElem?_eq_some_iff.1 hq).1
              obtain ⟨u', a, b, c⟩ := hc.2 q _ (List.getElem?_eq_getElem hql)
              have : y.cells.toList[q]? = some u' := by simpa using a
              rw [this] at hq; cases hq; exact c
            have hrun := run_storeVar (P := P) hn (o := j) c1 (v := y) (by rw [← Array.length_toList]; exact hyn) (by omega) h1
            refine ⟨s, _, hrun, L, rfl, hL, hne, grown_setRow, _, el, setRow_heap w L.b C _ el _ c1, ?_, ?_, ?_, fun q v hv => ?_⟩
            · rw [spl_size (by rw [hyn]; omega)]; exact c2
            · rw [length_spl _ _ _ (by rw [k1]; exact k2)]; exact c3
            · rw [spl_size (by rw [hyn]; omega), length_spl _ _ _ (by rw [k1]; exact k2)]; exact c4
            · have hI := keep_I (grown_setRow (w := w) (b := L.b) (cs := (C.toList.take j ++ y.cells.toList ++ C.toList.drop (j + y.cells.toList.length)).toArray)) r.old (fun b hb => by cases hb; exact hnI)
              rw [getElem?_spl _ _ _ (by rw [k1]; exact k2)] at hv
              rw [spl_get (by rw [hyn]; omega)]
              split at hv
              · rw [if_pos (by assumption)]
                obtain ⟨u, a, b, c⟩ := c5 q v hv
                exact ⟨u, a, b.mono (fun _ h => h) hI, c⟩
              · rw [if_neg (by assumption)]
                split at hv
                · rw [if_pos (by omega)]
                  obtain ⟨u, a, b, c⟩ := hc.2 _ v hv
                  exact ⟨u, by simpa using a, b.mono (fun _ h => h) hI, c⟩
                · rw [if_neg (by omega)]
                  obtain ⟨u, a, b, c⟩ := c5 q v hv
                  exact ⟨u, a, b.mono (fun _ h => h) hI, c⟩
          · cases hev
      | row ty z es =>
        obtain ⟨⟨C, c1, c2, c3, c4, c5, c6, c7⟩, hnI⟩ := ow
        simp only at hev
        split at hev
        · rename_i ts e hts he
          split at hev
          · rename_i hok
            simp only [Bool.and_eq_true, decide_eq_true_eq] at hok
            obtain ⟨⟨k1, k2⟩, k3⟩ := hok
            cases hev
            have hc := hy.cells k3
            have hYc := allT_some hts
            have hYl : Y.cells.length = n := by rw [hYc, List.length_map, k1]
            have hyn : y.cells.toList.length = n := by rw [Array.length_toList, hc.1, hYl]
            have hez := c6 i e he
            have hil : i < es.length := (List.getElem?_eq_some_iff.1 he).1
            have hiz : (i + 1) * z ≤ es.length * z := Nat.mul_le_mul_right _ hil
            rw [Nat.add_mul] at hiz
            have h1 : ∀ u ∈ y.cells.toList, u.oneCell' = true := by
              intro u hu
              obtain ⟨q, hq⟩ := List.mem_iff_getElem?.1 hu
              have hql : q < Y.cells.length := by rw [← hc.1, ← Array.length_toList]; exact (List.getElem?_eq_some_iff.1 hq).1
              obtain ⟨u', a, b, c⟩ := hc.2 q _ (List.getElem?_eq_getElem hql)
              have : y.cells.toList[q]? = some u' := by simpa using a
              rw [this] at hq; cases hq; exact c
            rw [c3]
            have hrun := run_storeVar (P := P) hn (o := i * z + j) c1 (v := y) (by rw [← Array.length_toList]; exact hyn) (by omega) h1
            have hfit : i * z + j + y.cells.toList.length ≤ C.size := by rw [hyn]; omega
            have hI := keep_I (grown_setRow (w := w) (b := L.b) (cs := (C.toList.take (i * z + j) ++ y.cells.toList ++ C.toList.drop (i * z + j + y.cells.toList.length)).toArray)) r.old (fun b hb => by cases hb; exact hnI)
            refine ⟨s, _, hrun, L, rfl, hL, hne, grown_setRow, _, setRow_heap w L.b C _ ty _ c1, ?_, c3, c4, ?_, fun q e' hq => ?_, fun q e' p x hq hp => ?_⟩
            · rw [spl_size hfit]; exact c2
            · rw [spl_size hfit, List.length_set]; exact c5
            · rw [List.getElem?_set] at hq
              split at hq
              · cases hq; rw [length_spl _ _ _ (by rw [k1]; exact k2)]; exact hez
              · exact c6 q e' hq
            · rw [spl_get hfit]
              have old : ∀ (e0 : List T) (x0 : T), es[q]? = some e0 → e0[p]? = some x0 → (q ≠ i ∨ p < j ∨ j + n ≤ p) → ∃ u, (if q * z + p < i * z + j then C[q * z + p]? else if q * z + p < i * z + j + y.cells.toList.length then y.cells.toList[q * z + p - (i * z + j)]? else C[q * z + p]?) = some u ∧ RelT I (w.setRow L.b (C.toList.take (i * z + j) ++ y.cells.toList ++ C.toList.drop (i * z + j + y.cells.toList.length)).toArray) x0 u ∧ u.oneCell' = true := by
                intro e0 x0 h0 hx0 hcase
                obtain ⟨u, a, b, c⟩ := c7 q e0 p x0 h0 hx0
                have hpz : p < z := by rw [← c6 q e0 h0]; exact (List.getElem?_eq_some_iff.1 hx0).1
                refine ⟨u, ?_, b.mono (fun _ h => h) hI, c⟩
                have hsep : q * z + p < i * z + j ∨ i * z + j + n ≤ q * z + p := by
                  rcases Nat.lt_trichotomy q i with hlt | heq | hgt
                  · left
                    have : (q + 1) * z ≤ i * z := Nat.mul_le_mul_right _ hlt
                    rw [Nat.add_mul] at this; omega
                  · subst heq
                    rcases hcase with h | h | h
                    · exact (h rfl).elim
                    · left; omega
                    · right; omega
                  · right
                    have : (i + 1) * z ≤ q * z := Nat.mul_le_mul_right _ hgt
                    rw [Nat.add_mul] at this; omega
                rcases hsep with h | h
                · rw [if_pos h]; exact a
                · rw [if_neg (by omega), if_neg (by rw [hyn]; omega)]; exact a
              rw [List.getElem?_set] at hq
              split at hq
              · rename_i heq
                subst heq
                cases hq
                rw [getElem?_spl _ _ _ (by rw [k1]; exact k2)] at hp
                split at hp
                · exact old e x he hp (.inr (.inl (by assumption)))
                · split at hp
                  · rename_i g1 g2
                    have hY : Y.cells[p - j]? = some (.t x) := by rw [hYc, List.getElem?_map, hp]; rfl
                    obtain ⟨u, a, b, c⟩ := hc.2 _ _ hY
                    refine ⟨u, ?_, b.inv_t.mono (fun _ h => h) hI, c⟩
                    rw [if_neg (by omega), if_pos (by rw [hyn]; rw [k1] at g2; omega), show i * z + p - (i * z + j) = p - j by omega]
                    simpa using a
                  · exact old e x he hp (.inr (.inr (by rw [k1] at *; omega)))
              · rename_i hne'
                exact old e' x hq hp (.inl (fun e => hne' e.symm))
          · cases hev
        · cases hev
  | t y' u hyt => cases hyt <;> simp [evSt] at hev
  | _ => simp [evSt] at hev

theorem take_rep_get {α : Type} (es : List α) (b n : Nat) (x : α) (h : b + n ≤ es.length) (q : Nat) : (es.take b ++ List.replicate n x ++ es.drop (b + n))[q]? = if q < b then es[q]? else if q < b + n then some x else es[q]? := by
  have hb : (es.take b).length = b := by simp; omega
  by_cases h1 : q < b
  · rw [if_pos h1, List.append_assoc, List.getElem?_append_left (by omega), List.getElem?_take, if_pos h1]
  · rw [if_neg h1]
    by_cases h2 : q < b + n
    · rw [if_pos h2, List.append_assoc, List.getElem?_append_right (by omega), hb, List.getElem?_append_left (by simp; omega), List.getElem?_replicate, if_pos (by omega)]
    · rw [if_neg h2, List.append_assoc, List.getElem?_append_right (by omega), hb, List.getElem?_append_right (by simp; omega), List.length_replicate, List.getElem?_drop]
      congr 1; omega

theorem sim_clr {P : Program} {t e ty : TypeId} {z : Nat} {zs : List T} {X : V} {x : Value} {h : Lk} {ef : Ef} (r : Rep s I w h) (d : Nat) (ht : P.underlying t = some (.slice e)) (hz : sizeT P e = some z) (hzp : 0 < z) (hzs : zeroT P e = some zs) (hzl : zs.length = z) (hev : evClr h z zs X = some ef) (hx : RelV s I w X x) :
    ∃ s' w', (Builtin.clear_ #[t] ty #[x]).run P w = .ok (.tuple #[]) w' ∧ FxOk s I w h d ef s' w' := by
  cases hx with
  | t y' u hyt =>
    cases hyt <;> simp [evClr] at hev
    subst hev
    exact ⟨s, w, by simp [Builtin.clear_, run_underlying ht], rfl, rfl⟩
  | slc m b len L o cap hL hl hm ho h0 htt =>
    cases len with
    | zero =>
      simp [evClr] at hev
      subst hev
      exact ⟨s, w, by simp [Builtin.clear_, run_underlying ht], rfl, rfl⟩
    | succ len =>
      simp only [evClr] at hev
      cases hh : h m with
      | none => simp [hh] at hev
      | some ob =>
        rw [hh] at hev
        have hne : h m ≠ none := by simp [hh]
        cases ob with
        | box cs => simp at hev
        | row ty' z' es =>
          obtain ⟨⟨C, c1, c2, c3, c4, c5, c6, c7⟩, hnI⟩ := r.own m _ L hh hL
          simp only at hev
          split at hev
          · rename_i hok
            simp only [Bool.and_eq_true, decide_eq_true_eq] at hok
            obtain ⟨⟨k1, k2⟩, k3⟩ := hok
            have k1' := beq_yes k1
            subst k1'
            cases hev
            have ho' := ho.resolve_right (by omega)
            rw [c3] at ho'
            subst ho'
            obtain ⟨i, zv, hi, hzv, hsz, hrel⟩ := relC_zero (I := I) (w := w) hzs
            have hzc : zv.cells.size = z' := by rw [hsz, hzl]
            have hlen : (Builtin.zeroCells zv.cells (len + 1)).toList.length = (len + 1) * z' := by simp [Builtin.zeroCells, hzc]
            have hbz : (b + (len + 1)) * z' ≤ es.length * z' := Nat.mul_le_mul_right _ k3
            rw [Nat.add_mul] at hbz
            have hget : ∀ p, p < (len + 1) * z' → ∃ u, (Builtin.zeroCells zv.cells (len + 1)).toList[p]? = some u ∧ zv.cells[p % z']? = some u := by
              intro p hp
              have hm : p % z' < zv.cells.size := by rw [hzc]; exact Nat.mod_lt _ c4
              refine ⟨zv.cells[p % z'], ?_, Array.getElem?_eq_getElem hm⟩
              simp only [Builtin.zeroCells, Array.toList_map, Array.toList_range, List.getElem?_map, hzc]
              rw [List.getElem?_range hp]
              simp only [Option.map_some]
              rw [getElem!_pos zv.cells (p % z') hm]
            have h1 : ∀ u ∈ (Builtin.zeroCells zv.cells (len + 1)).toList, u.oneCell' = true := by
              intro u hu
              obtain ⟨p, hp⟩ := List.mem_iff_getElem?.1 hu
              have hpl : p < (len + 1) * z' := by rw [← hlen]; exact (List.getElem?_eq_some_iff.1 hp).1
              obtain ⟨u', a1, a2⟩ := hget p hpl
              rw [a1] at hp; cases hp
              have hj : p % z' < zs.length := by rw [hzl]; exact Nat.mod_lt _ c4
              obtain ⟨u2, b1, b2, b3⟩ := hrel (p % z') _ (List.getElem?_eq_getElem hj)
              rw [b1] at a2; cases a2; exact b3
            have hfit : b * z' + (Builtin.zeroCells zv.cells (len + 1)).toList.length ≤ C.size := by rw [hlen]; omega
            have hrun := run_storeCells_at P L.b (b * z') ty' (Builtin.zeroCells zv.cells (len + 1)).toList 0 C w c1 (by omega) h1
            simp only [Nat.add_zero] at hrun
            have hI := keep_I (grown_setRow (w := w) (b := L.b) (cs := (C.toList.take (b * z') ++ (Builtin.zeroCells zv.cells (len + 1)).toList ++ C.toList.drop (b * z' + (Builtin.zeroCells zv.cells (len + 1)).toList.length)).toArray)) r.old (fun b hb => by cases hb; exact hnI)
            have hlenE : (es.take b ++ List.replicate (len + 1) zs ++ es.drop (b + (len + 1))).length = es.length := by simp; omega
            have hfull : (Builtin.clear_ #[t] ty #[.slice (some ⟨L.b, b * z', none⟩) (len + 1) cap]).run P w = .ok (.tuple #[]) (w.setRow L.b (C.toList.take (b * z') ++ (Builtin.zeroCells zv.cells (len + 1)).toList ++ C.toList.drop (b * z' + (Builtin.zeroCells zv.cells (len + 1)).toList.length)).toArray) := by
              simp [Builtin.clear_, run_underlying ht, zeroValue, typeInfo, hi, hzv, hrun]
            refine ⟨s, _, hfull, L, rfl, hL, hne, grown_setRow, _, setRow_heap w L.b C _ ty' _ c1, ?_, c3, c4, ?_, fun q e' hq => ?_, fun q e' p y hq hp => ?_⟩
            · rw [spl_size hfit]; exact c2
            · rw [spl_size hfit, hlenE]; exact c5
            · rw [take_rep_get es b (len + 1) zs k3] at hq
              split at hq
              · exact c6 q e' hq
              · split at hq
                · cases hq; exact hzl
                · exact c6 q e' hq
            · rw [spl_get hfit, hlen]
              rw [hlen] at hI
              rw [take_rep_get es b (len + 1) zs k3] at hq
              have old : es[q]? = some e' → (q < b ∨ b + (len + 1) ≤ q) → ∃ u, (if q * z' + p < b * z' then C[q * z' + p]? else if q * z' + p < b * z' + (len + 1) * z' then (Builtin.zeroCells zv.cells (len + 1)).toList[q * z' + p - b * z']? else C[q * z' + p]?) = some u ∧ RelT I (w.setRow L.b (C.toList.take (b * z') ++ (Builtin.zeroCells zv.cells (len + 1)).toList ++ C.toList.drop (b * z' + (len + 1) * z')).toArray) y u ∧ u.oneCell' = true := by
                intro hq hc
                obtain ⟨u, a1, a2, a3⟩ := c7 q e' p y hq hp
                have hpz : p < z' := by rw [← c6 q e' hq]; exact (List.getElem?_eq_some_iff.1 hp).1
                refine ⟨u, ?_, a2.mono (fun _ h => h) hI, a3⟩
                rcases hc with g | g
                · have : (q + 1) * z' ≤ b * z' := Nat.mul_le_mul_right _ g
                  rw [Nat.add_mul] at this
                  rw [if_pos (by omega)]; exact a1
                · have : (b + (len + 1)) * z' ≤ q * z' := Nat.mul_le_mul_right _ g
                  rw [Nat.add_mul] at this
                  rw [if_neg (by omega), if_neg (by omega)]; exact a1
              split at hq
              · exact old hq (.inl (by assumption))
              · split at hq
                · rename_i g1 g2
                  cases hq
                  have hpz : p < z' := by rw [← hzl]; exact (List.getElem?_eq_some_iff.1 hp).1
                  have hq1 : b * z' ≤ q * z' := Nat.mul_le_mul_right _ (by omega)
                  have hq2 : (q + 1) * z' ≤ (b + (len + 1)) * z' := Nat.mul_le_mul_right _ (by omega)
                  rw [Nat.add_mul, Nat.add_mul b] at hq2
                  rw [if_neg (by omega), if_pos (by omega)]
                  obtain ⟨u, a1, a2⟩ := hget (q * z' + p - b * z') (by omega)
                  have hmod : (q * z' + p - b * z') % z' = p := by
                    rw [show q * z' + p - b * z' = p + (q - b) * z' by rw [Nat.sub_mul]; omega, Nat.add_mul_mod_self_right, Nat.mod_eq_of_lt hpz]
                  rw [hmod] at a2
                  obtain ⟨u2, b1, b2, b3⟩ := hrel p y hp
                  rw [b1] at a2; cases a2
                  exact ⟨_, a1, b2.mono (fun _ h => h) hI, b3⟩
                · exact old hq (.inr (by omega))
          · cases hev
  | _ => simp [evClr] at hev

end
end Go.Eng
