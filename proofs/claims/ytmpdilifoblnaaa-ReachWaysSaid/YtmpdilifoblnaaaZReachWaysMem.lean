/-  -/
import Derived.Maps.GroupsBeside
import Derived.Laws.CopyOwn
import Derived.Test.YtmpdilifoblnaaaZReachWaysWWords
import Derived.Test.YtmpdilifoblnaaaZReachWaysWMore
import Derived.Test.YtmpdilifoblnaaaZReachWaysWLast
import Derived.Test.YtmpdilifoblnaaaZReachWaysWArr
namespace Go.Proofs.Ytmpdilifoblnaaa.Mem
open Go.RowKit Go.Proofs.YtmpdilifoblnaaaW.PrintWords
theorem hp_new {w : World} {o : Obj} {n : Nat} (h : n = w.heap.size) : (w.alloc o).heap[n]? = some o := by subst h; exact heap_alloc_new w o
theorem hp_old {w : World} {o x : Obj} {n : Nat} (h : w.heap[n]? = some x) : (w.alloc o).heap[n]? = some x := (Below.heap_alloc w o n (blk_lt h)).trans h
theorem hp_old' {w : World} {o : Obj} {n : Nat} (h : n < w.heap.size) : (w.alloc o).heap[n]? = w.heap[n]? := Below.heap_alloc w o n h
theorem grown_set (w : World) (g j : Nat) (u : Value) : w.grownBy (w.setCell ⟨g, j, none⟩ u) (some g) := by
  have h := (Below.refl g w).setCell (p := ⟨g, j, none⟩) (Nat.le_refl _) u
  exact ⟨h.os, h.tape, h.output, h.size, fun i _ hne => Below.heap_setCell w ⟨g, j, none⟩ u i (fun e => hne (by rw [e]))⟩
def itemsOf : DataW Unit → List Int
  | .slice ls _ => ls.map fun d => match d with | .lit (.int _ n) => n | _ => 0
  | _ => []
theorem itemsOf_lits (q : IntKind) (zs : List Int) : itemsOf (.slice (ChangeShapes.lits q zs) []) = zs := by
  simp [itemsOf, ChangeShapes.lits, Function.comp_def]
theorem itemsOf_row {w : World} {base : Nat} {e : TypeId} {q : IntKind} {v : Value} {zs : List Int} (h : w.ownsInts base e q v zs) : itemsOf (rowDatum q v zs) = zs := by
  rcases h.datum (H := Unit) with ⟨h1, h2⟩ | h1
  · rw [h1, h2]; rfl
  · rw [h1]; exact itemsOf_lits q zs
theorem one_entry {es : List MapEntry} (h : es.Pairwise (fun x y => x.key ≠ y.key)) {a b : MapEntry} (ha : a ∈ es) (hb : b ∈ es) (e : a.key = b.key) : a = b := by
  obtain ⟨i, hi, rfl⟩ := List.getElem_of_mem ha
  obtain ⟨j, hj, rfl⟩ := List.getElem_of_mem hb
  rw [List.pairwise_iff_getElem] at h
  rcases Nat.lt_trichotomy i j with l | l | l
  · exact absurd e (h i j hi hj l)
  · subst l; rfl
  · exact absurd e.symm (h j i hj hi l)
theorem look_stays {w w1 : World} {P : Program} {t k E e : TypeId} {q : IntKind} {base b n : Nat} {D : DataW Unit} {key v : Value} {kl : Lit} (h : w.ownsGroups P k base e q b n D) (K : Maps.Keyed P k) (ht : P.underlying t = some (.map k E)) (hz : ∀ w, (zeroValue E).run P w = .ok (.slice none 0 0) w) (hkey : keyOf P k key = some kl)
    (hrun : (Instr.lookup t (.map (some b)) key false).run P w = .ok v w) (hb : w1.heap[b]? = w.heap[b]?) : (Instr.lookup t (.map (some b)) key false).run P w1 = .ok v w1 := by
  obtain ⟨es, clock, hb0, F, _⟩ := h
  have hb1 := hb.trans hb0
  have hp := ((MapKept.stamped_iff es clock).1 F.stamped).2.2
  rcases Maps.fit_look false K ht (hz w) hb0 F hkey with ⟨r, hno, _⟩ | ⟨e0, y, hm0, h3, r, _⟩
  · rw [hrun] at r
    injection r with r
    rcases Maps.fit_look false K ht (hz w1) hb1 F hkey with ⟨r', _, _⟩ | ⟨e1, y1, hm1, h31, _⟩
    · rw [r', r]
    · exact absurd h31 (hno _ hm1)
  · rw [hrun] at r
    injection r with r
    rcases Maps.fit_look false K ht (hz w1) hb1 F hkey with ⟨_, hno, _⟩ | ⟨e1, y1, hm1, h31, r', _⟩
    · exact absurd h3 (hno _ hm0)
    · rw [r', r, one_entry hp hm1 hm0 (h31.trans h3.symm)]
def QInts (w : World) (base : Nat) (e : TypeId) (v : Value) (xs : List Int) : Prop := QRow w base e 1 v xs.length (nums .i64 xs)
section
variable {w w1 : World} {base : Nat} {e : TypeId} {v : Value} {xs ys : List Int}
theorem QInts.slice (h : QInts w base e v xs) : ∃ A c, v = .slice A xs.length c ∧ xs.length ≤ c := q_slice h
theorem QInts.move (h : QInts w base e v xs) (hm : ∀ k, v.ownBlock = some k → w1.heap[k]? = w.heap[k]?) : QInts w1 base e v xs := q_move h hm
theorem QInts.base_ (h : QInts w base e v xs) : ∀ k, v.ownBlock = some k → base ≤ k := fun k hk => (q_typed h k hk).1
theorem QInts.lt (h : QInts w base e v xs) : ∀ k, v.ownBlock = some k → k < w.heap.size := q_lt h
theorem QInts.below (h : QInts w base e v xs) (hb : Below w.heap.size w w1) : QInts w1 base e v xs := h.move fun k hk => hb.block k (h.lt k hk)
theorem QInts.grown (h : QInts w base e v xs) {row : Option Nat} (hg : w.grownBy w1 row) (hne : ∀ k, row = some k → k < base) : QInts w1 base e v xs :=
  h.move fun k hk => hg.block k (h.lt k hk) (fun e => by have := h.base_ k hk; have := hne k e.symm; omega)
theorem QInts.max_ (h : QInts w base e v xs) : xs.length ≤ 9223372036854775807 := q_max h
theorem QInts.drop_ {A : Option Addr} {c : Nat} {x : Int} (h : QInts w base e (.slice A (x :: xs).length c) (x :: xs)) : QInts w base e (.slice (if c = 1 then A else A.map (·.add 1)) xs.length (c - 1)) xs := by
  have := q_drop (k := 1) h (by simp)
  unfold QInts
  simpa [nums] using this
theorem QInts.head_ {A : Option Addr} {c : Nat} {x : Int} (h : QInts w base e (.slice A (x :: xs).length c) (x :: xs)) : ∃ ad, A = some ad ∧ w.cell? ad = some (.int .i64 x) := by
  obtain ⟨ad, h1, h2⟩ := q_cells h (by simp)
  refine ⟨ad, h1, ?_⟩
  have := h2 0 (.int .i64 x) (by simp [nums])
  rwa [show ad.add 0 = ad by simp [Addr.add]] at this
theorem QInts.append_ {P : Program} (t ty : TypeId) (i0 : TypeInfo) (z : Value) (ht : P.underlying t = some (.slice e)) (hi : P.info? e = some i0) (hz0 : i0.zero = some z) (hz1 : i0.size = 1) (hz2 : i0.bytes = 8) (hzs : z.cells.size = 1)
    (h : QInts w base e v xs) {A : Option Addr} {c : Nat} (hR : Kd.C (Kd.int .i64) w A ys.length ys) (hl : xs.length + ys.length < 17592186044416) (hbase : base ≤ w.heap.size) :
    ∃ v' w', (Builtin.append_ #[t, t] ty #[v, .slice A ys.length c]).run P w = .ok v' w' ∧ QInts w' base e v' (xs ++ ys) ∧ w.grownBy w' v.ownBlock ∧ (v'.ownBlock = v.ownBlock ∨ ∃ b, v'.ownBlock = some b ∧ w.heap.size ≤ b) := by
  rcases Nat.eq_zero_or_pos ys.length with h0 | h0
  · obtain rfl : ys = [] := List.eq_nil_of_length_eq_zero h0
    refine ⟨v, w, ?_, by rw [List.append_nil]; exact h, World.grownBy.refl w _, .inl rfl⟩
    obtain ⟨B, d, rfl, hd⟩ := h.slice
    cases A <;> cases B <;> simp [Builtin.append_, run_underlying ht, sizeOf, typeInfo, hi, Builtin.lenOf, Builtin.firstCells, storeCells, loadCells, loadCellsFrom, hd]
  · obtain ⟨ad, rfl, hc⟩ := hR.2.2 h0
    obtain ⟨v', w', hr, hq, hg, hat⟩ := q_append (P := P) w base t ty e i0 z 1 8 ht hi hz0 hz1 hz2 hzs (by decide) v xs.length (nums .i64 xs) h ad ys.length c (nums .i64 ys) (by rw [nums_length, Nat.mul_one])
      (fun j u hj => by
        have hjl : j < ys.length := by
          rcases Nat.lt_or_ge j ys.length with h' | h'
          · exact h'
          · rw [List.getElem?_eq_none (by rw [nums_length]; exact h')] at hj; cases hj
        have hx : (nums .i64 ys)[j]? = some (.int .i64 ys[j]) := by simp [nums, hjl]
        rw [hx] at hj
        obtain ⟨cs, _, hk, hcell⟩ := hc j ys[j] (List.getElem?_eq_getElem hjl)
        have hcs : cs = [.int .i64 ys[j]] := hk
        subst hcs
        have := hcell 0 _ rfl
        rw [Nat.add_zero, show j * (Kd.int IntKind.i64).sz = j from Nat.mul_one _] at this
        rw [← Option.some.inj hj]; exact this)
      (by intro u hu; obtain ⟨x, _, rfl⟩ := List.mem_map.1 hu; rfl) h0 (by unfold maxLen; omega) (by omega) hbase
    refine ⟨v', w', hr, ?_, hg, hat⟩
    unfold QInts
    rw [List.length_append, nums_append]
    exact hq
theorem QInts.of_R {ok : Nat → Prop} (h : (Kd.int .i64).R e w base ok v xs) : QInts w base e v xs := by
  obtain ⟨_, inner, ho, hr⟩ := h
  have : inner = encs (Value.int .i64) xs := Kd.reps_encs hr
  subst this
  exact q_of_own ho
end
theorem R_madeS {α : Type} {enc : α → Value} {h1 : ∀ x, (enc x).oneCell' = true} (z : α) (W : World) (base e n : Nat) (hb : base ≤ W.heap.size) (hm : n ≤ 9223372036854775807) {ok : Nat → Prop} (hok : ok W.heap.size) :
    (Kd.scalar enc h1).R e (W.alloc (.cells (madeCells #[enc z] n) e)) base ok (.slice (some ⟨W.heap.size, 0, none⟩) n n) (List.replicate n z) := by
  have h := own_made_of' (enc := enc) (d := z) W base e n hb hm
  refine ⟨fun k hk => ?_, encs enc (List.replicate n z), ?_, Kd.reps_scalar _⟩
  · simp only [Value.ownBlock, Option.some.injEq] at hk
    rw [← hk]; exact hok
  · exact h
theorem ints_read {w : World} {base : Nat} {e : TypeId} {v : Value} {zs : List Int} (h : w.ownsInts base e .i64 v zs) : ∃ A c, v = .slice A zs.length c ∧ zs.length ≤ c ∧ Kd.C (Kd.int .i64) w A zs.length zs :=
  Kd.R_reads (d := Kd.int .i64) (e := e) (base := base) (ok := fun _ => True) ⟨fun _ _ => trivial, zs.map (Value.int .i64), h.1, Kd.reps_scalar zs⟩
theorem wp_append_run {P : Program} {ops : Array Oper} {rest : List Oper} {o : Oper} {a : Act} {Q : Exit → Act → World → Prop} {w w' : World} (hgd : o.guard = none) (s x : Operand) (t : TypeId)
    (ho : o.op = .call { callee := .builtin .append, args := #[s, x], argTypes := #[t, t] }) {vs vx v' : Value} (hs : a.eval s = vs) (hx : a.eval x = vx)
    (hr : (Builtin.append_ #[t, t] o.type #[vs, vx]).run P w = .ok v' w') (h : wpList P ops Q rest (a.put o.dst v') w') : wpList P ops Q (o :: rest) a w := by
  refine wpList_plain hgd fun K hK => ?_
  unfold Oper.wp execOp
  simp only [ho, resolve, invoke, builtin, Sem.run_bind, Sem.run_pure, Result.andThen_ok, List.map_toArray, List.map_cons, List.map_nil, hs, hx, hr]
  exact hK _ _ h
def upTo (n : Nat) : List Int := (List.range n).map Int.ofNat
theorem upTo_length (n : Nat) : (upTo n).length = n := by simp [upTo]
theorem upTo_succ (n : Nat) : upTo (n + 1) = upTo n ++ [(n : Int)] := by
  unfold upTo
  rw [List.range_succ, List.map_append]
  rfl
theorem fill_step (n k : Nat) (h : k < n) : (upTo k ++ List.replicate (n - k) (0 : Int)).set k (k : Int) = upTo (k + 1) ++ List.replicate (n - (k + 1)) (0 : Int) := by
  rw [List.set_append_right _ _ (by rw [upTo_length]; exact Nat.le_refl _), upTo_length, Nat.sub_self, show n - k = (n - (k + 1)) + 1 by omega, List.replicate_succ, List.set_cons_zero, upTo_succ, List.append_assoc]
  rfl
end Go.Proofs.Ytmpdilifoblnaaa.Mem
