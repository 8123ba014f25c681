/-
An engine for proofs about Go functions, part H: a region that draws its order comes to what the text's order says.
-/
import Derived.Test.YtijeohfdfoebfaaEngG
set_option linter.all false
namespace Go.Eng
open Go.RowKit
set_option linter.unusedSimpArgs false

section
variable {s s' : Nat → Option Loc} {I : Nat → Prop} {w w' : World} {h : Lk} {d : Nat} {e : Ef}

/-- Names that are taken stay. -/
theorem FxOk.ext (f : FxOk s I w h d e s' w') (hd : (∀ o, e = .add o → s d = none) ∧ (∀ m o, e = .mov m o → s d = none)) : ∀ n L, s n = some L → s' n = some L := by
  intro n L hL
  cases e with
  | non => rw [f.1]; exact hL
  | add o => obtain ⟨L', rfl, -⟩ := f; rw [upd_ne (by intro e; subst e; rw [hd.1 o rfl] at hL; cases hL)]; exact hL
  | set m o => obtain ⟨L', rfl, -⟩ := f; exact hL
  | mov m o => obtain ⟨L', L2, rfl, -⟩ := f; rw [upd_ne (by intro e; subst e; rw [hd.2 m o rfl] at hL; cases hL)]; exact hL
  | del m => exact f.elim

theorem FxOk.rep' (r : Rep s I w h) (f : FxOk s I w h d e s' w') (hd : (∀ o, e = .add o → s d = none) ∧ (∀ m o, e = .mov m o → s d = none)) : Rep s' I w' (e.ap d h) := by
  have hx := f.ext hd
  have kp := f.keep r
  have rr := f.rep r
  have hnm := f.names
  have old : ∀ n o L, n ≠ d → h n = some o → s' n = some L → (¬ e.wr s L.b) → Own s' I w' L o ∧ ¬ I L.b := by
    intro n o L hn ho hL hw
    rw [hnm n hn] at hL
    obtain ⟨a, b⟩ := r.own n o L ho hL
    exact ⟨a.mono (fun _ h => h) kp.2.2.2.2.2 (kp.2.2.2.2.1 _ (r.lt ho hL) hw) (fun v u q => q.ext hx), b⟩
  have dom : ∀ n, e.ap d h n ≠ none → e.lk d h n ≠ none := by
    intro n
    cases e with
    | non => exact id
    | add o => simp only [Ef.ap, Ef.lk]; split <;> simp
    | set m o => exact id
    | mov m o => simp only [Ef.ap, Ef.lk]; split <;> (try split) <;> simp
    | del m => exact f.elim
  refine ⟨fun n o L hn hL => ?_, fun n m L M hn hm => rr.inj n m L M (dom n hn) (dom m hm), rr.old⟩
  cases e with
  | del m => exact f.elim
  | non => obtain ⟨rfl, rfl⟩ := f; exact r.own n o L hn hL
  | set m o' => exact rr.own n o L hn hL
  | add o' =>
    simp only [Ef.ap] at hn
    split at hn
    · exact rr.own n o L (by simp only [Ef.lk]; rw [if_pos (by assumption)]; exact hn) hL
    · exact old n o L (by assumption) hn hL (fun q => q)
  | mov m o' =>
    simp only [Ef.ap] at hn
    split at hn
    · exact rr.own n o L (by simp only [Ef.lk]; rw [if_pos (by assumption)]; exact hn) hL
    · split at hn
      · cases hn
      · rename_i e1 e2
        refine old n o L e1 hn hL ?_
        rintro ⟨L2, hL2, hb⟩
        obtain ⟨La, Lb, hs', hLa, hm, _⟩ := f
        rw [hnm n e1] at hL
        exact e2 (r.inj n m L L2 (by simp [hn]) hm hL hL2 hb.symm)

end

section
variable {P : Program} {w0 : Base} {I0 : Nat → Prop} {N : Nat}

theorem StX.eff {tm : Tm} {h : Lk} {s s' : Nat → Option Loc} {I : Nat → Prop} {a : Act} {w w' : World} {d : Nat} {v : V} {u : Value} {ef : Ef} {dst : Option Nat} (x : StX w0 I0 N tm h s I a w) (hf : FxOk s I w h d ef s' w') (hd : (∀ o, ef = .add o → s d = none) ∧ (∀ m o, ef = .mov m o → s d = none))
    (hv : RelV s' I w' v u) (hb : ∀ n, dst = some n → n < N) (hdf : d < far) : StX w0 I0 N (put tm dst v) (ef.ap d h) s' I (a.put dst u) w' := by
  obtain ⟨k1, k2, k3, k4, k5, k6⟩ := hf.keep x.rep
  have hx := hf.ext hd
  have hnm := hf.names
  have hsz := x.below.size
  refine ⟨by rw [tmps_put]; exact x.size, by rw [defers_put]; exact x.defers, TmOk.put (fun t y hy => ((x.tm t y hy).ext hx).mono (fun _ h => h) k6) hv (fun n hn => by rw [x.size]; exact hb n hn), hf.rep' x.rep hd, ?_, ?_, x.inc, x.new, fun n hn => (hnm n (by omega)).trans (x.outer n hn)⟩
  · refine x.below.step k1 k2 k3 k4 fun b hb hnew => k5 b hb ?_
    intro hw
    cases ef with
    | non => exact hw
    | add o => exact hw
    | set m o => obtain ⟨L, hs, hL, hm, _⟩ := hf; obtain ⟨L', hL', rfl⟩ := hw; exact hnew (x.own m L' hm hL')
    | mov m o => obtain ⟨L, L2, hs, hL, hm, _⟩ := hf; obtain ⟨L', hL', rfl⟩ := hw; exact hnew (x.own m L' hm hL')
    | del m => exact hf.elim
  · intro n L hn hL
    have old : ∀ n, n ≠ d → h n ≠ none → s' n = some L → w0.New L.b := fun n hnd hn hL => x.own n L hn (by rw [← hnm n hnd]; exact hL)
    cases ef with
    | del m => exact hf.elim
    | non => obtain ⟨rfl, rfl⟩ := hf; exact x.own n L hn hL
    | add o =>
      obtain ⟨L', rfl, _, hge, _⟩ := hf
      by_cases e : n = d
      · subst e; rw [upd_self] at hL; cases hL; left; omega
      · exact old n e (by simpa [Ef.ap, e] using hn) hL
    | set m o =>
      obtain ⟨L', rfl, hL', hm, _⟩ := hf
      by_cases e : n = m
      · subst e; exact x.own n L hm hL
      · exact x.own n L (by simpa [Ef.ap, e] using hn) hL
    | mov m o =>
      obtain ⟨L', L2, rfl, hL', hm, _, hb2, _⟩ := hf
      by_cases e : n = d
      · subst e; rw [upd_self] at hL; cases hL
        have := x.own m L' hm hL'
        rcases hb2 with q | q
        · rw [q]; exact this
        · left; omega
      · refine old n e ?_ hL
        intro q
        by_cases e2 : n = m
        · simp [Ef.ap, e, e2] at hn
          exact e (e2.trans hn)
        · simp [Ef.ap, e, e2, q] at hn

theorem evCls_spec {d ty z b : Nat} {h : Lk} {ys : List (List T)} {x v : V} {e : Ef} (he : evCls (evApp d ty z b h ys x) = some (v, e)) :
    (∃ es, evApp d ty z b h ys x = some (.slc d z 0 es.length, .add (.row ty z es)) ∧ v = .t (.lst z es) ∧ e = .non) ∨
    (∃ m es, evApp d ty z b h ys x = some (.slc d z 0 es.length, .mov m (.row ty z es)) ∧ v = .t (.lst z es) ∧ e = .del m ∧ ∃ k, x = .slc m z 0 k) ∨
    (evApp d ty z b h ys x = some (v, .non) ∧ e = .non) := by
  unfold evApp at he
  split at he
  · cases ys with
    | nil => cases he; exact .inr (.inr ⟨rfl, rfl⟩)
    | cons y r =>
      by_cases hb : (y :: r).length * b ≤ 140737488355328
      · simp only [hb, if_true] at he
        cases he
        exact .inl ⟨_, by simp only [evApp, hb, if_true], rfl, rfl⟩
      · simp only [hb, if_false] at he
        cases he
  · rename_i m z0 len
    split at he
    · rename_i ty' z' es hm
      split at he
      · rename_i hq
        split at he
        · rename_i hb
          cases he
          right; left
          simp only [Bool.and_eq_true] at hq
          obtain ⟨⟨q1, q2⟩, q3⟩ := hq
          have e1 := Nat.eq_of_beq_eq_true q3
          subst e1
          refine ⟨m, es.take len ++ ys, ?_, rfl, rfl, len, rfl⟩
          have hl : (es.take len ++ ys).length = len + ys.length := by simp; omega
          simp only [evApp, hm, q1, q2, q3, Bool.and_self]
          rw [if_pos hb, hl]
        · cases he
      · cases he
    · cases he
  · split at he
    · cases he; exact .inr (.inr ⟨by simp only [evApp], rfl⟩)
    · cases he
  · cases he

theorem StX.cls {tm : Tm} {h : Lk} {s s' : Nat → Option Loc} {I : Nat → Prop} {a : Act} {w w' : World} {d : Nat} {u : Value} {e0 e : Ef} {dst : Option Nat} {ty z : Nat} {es : List (List T)} (x : StX w0 I0 N tm h s I a w) (hf : FxOk s I w h d e0 s' w')
    (he : (e0 = .add (.row ty z es) ∧ e = .non) ∨ ∃ m, e0 = .mov m (.row ty z es) ∧ e = .del m) (hv : RelV s' I w' (.slc d z 0 es.length) u) (hb : ∀ n, dst = some n → n < N) : ∃ I', StX w0 I0 N (put tm dst (.t (.lst z es))) (e.ap d h) s I' (a.put dst u) w' := by
  obtain ⟨k1, k2, k3, k4, k5, k6⟩ := hf.keep x.rep
  have hsz := x.below.size
  obtain ⟨L', hs', ho, hL'⟩ : ∃ L', s' d = some L' ∧ Own s' I w' L' (.row ty z es) ∧ (w.heap.size ≤ L'.b ∨ ∃ m L, e = .del m ∧ s m = some L ∧ h m ≠ none ∧ L'.b = L.b) := by
    rcases he with ⟨rfl, rfl⟩ | ⟨m, rfl, rfl⟩
    · obtain ⟨L, rfl, -, hge, ho⟩ := hf
      exact ⟨L, upd_self .., ho, .inl hge⟩
    · obtain ⟨L, L', rfl, hL, hm, -, hb2, ho⟩ := hf
      refine ⟨L', upd_self .., ho, ?_⟩
      rcases hb2 with q | q
      · exact .inr ⟨m, L, rfl, hL, hm, q⟩
      · exact .inl q
  have hlk : ∀ n, look [(d, Ob.row ty z es)] n = if n = d then some (Ob.row ty z es) else none := fun n => by rw [look_cons]; rfl
  have hnI : ¬ I L'.b := by
    intro hI
    rcases hL' with q | ⟨m, L, -, hL, hm, q⟩
    · have := x.rep.old _ hI; omega
    · obtain ⟨o, ho'⟩ := Option.ne_none_iff_exists'.1 hm
      exact (x.rep.own m o L ho' hL).2 (q ▸ hI)
  have hrep : Rep s' I w' (look [(d, Ob.row ty z es)]) := by
    refine ⟨fun n o L hn hL => ?_, fun n k L M hn hk _ _ _ => ?_, fun b hb => Nat.lt_of_lt_of_le (x.rep.old b hb) k4⟩
    · rw [hlk] at hn
      by_cases e : n = d
      · subst e; rw [if_pos rfl] at hn; cases hn; rw [hs'] at hL; cases hL; exact ⟨ho, hnI⟩
      · rw [if_neg e] at hn; cases hn
    · rw [hlk] at hn hk
      by_cases e1 : n = d
      · by_cases e2 : k = d
        · rw [e1, e2]
        · rw [if_neg e2] at hk; exact (hk rfl).elim
      · rw [if_neg e1] at hn; exact (hn rfl).elim
  have hclo : clo 40 (look [(d, Ob.row ty z es)]) (.slc d z 0 es.length) = some (.lst z es) := by
    simp only [clo, hlk, if_pos, Nat.beq_refl, Bool.true_and, Nat.zero_add, Nat.le_refl, decide_true]
    congr 1
    simp [cut]
  have hT := (clo_rel hrep 40).1 _ _ u hclo hv
  refine ⟨fun b => I b ∨ Owned s' (look [(d, Ob.row ty z es)]) b, ?_⟩
  have hO : ∀ b, Owned s' (look [(d, Ob.row ty z es)]) b → b = L'.b := by
    rintro b ⟨n, L, hn, hL, rfl⟩
    rw [hlk] at hn
    by_cases e : n = d
    · subst e; rw [hs'] at hL; cases hL; rfl
    · rw [if_neg e] at hn; exact (hn rfl).elim
  have apn : ∀ n o, e.ap d h n = some o → h n = some o ∧ ∀ m, e = .del m → n ≠ m := by
    intro n o hn
    rcases he with ⟨-, rfl⟩ | ⟨m, -, rfl⟩
    · exact ⟨hn, fun m q => by cases q⟩
    · simp only [Ef.ap] at hn
      by_cases q : n = m
      · rw [if_pos q] at hn; cases hn
      · rw [if_neg q] at hn; exact ⟨hn, fun m' q' => by cases q'; exact q⟩
  have other : ∀ n o L, h n = some o → (∀ m, e = .del m → n ≠ m) → s n = some L → L.b ≠ L'.b := by
    intro n o L hn hnm hL hb
    rcases hL' with q | ⟨m, M, hm1, hM, hm, q⟩
    · have := x.rep.lt hn hL; omega
    · exact hnm m hm1 (x.rep.inj n m L M (by rw [hn]; simp) hm hL hM (hb.trans q))
  have wrE : ∀ b, e0.wr s b → ∃ m L, e = .del m ∧ s m = some L ∧ h m ≠ none ∧ b = L.b := by
    intro b hw
    rcases he with ⟨rfl, rfl⟩ | ⟨m, rfl, rfl⟩
    · exact hw.elim
    · obtain ⟨L, hL, rfl⟩ := hw
      obtain ⟨L0, L1, -, hL0, hm, -⟩ := hf
      exact ⟨m, L, rfl, hL, hm, rfl⟩
  refine ⟨by rw [tmps_put]; exact x.size, by rw [defers_put]; exact x.defers, TmOk.put (fun t y hy => (x.tm t y hy).mono (fun _ h => .inl h) k6) (.t _ _ hT) (fun n hn => by rw [x.size]; exact hb n hn), ⟨fun n o L hn hL => ?_, fun n k L M hn hk => ?_, ?_⟩, ?_, fun n L hn hL => ?_, fun b hb => .inl (x.inc b hb), ?_, x.outer⟩
  · obtain ⟨h1, h2⟩ := apn n o hn
    obtain ⟨a1, a2⟩ := x.rep.own n o L h1 hL
    refine ⟨a1.mono (fun _ h => .inl h) k6 (k5 _ (x.rep.lt h1 hL) (fun q => ?_)) (fun _ _ h => h), fun q => q.elim a2 (fun q => other n o L h1 h2 hL (hO _ q))⟩
    obtain ⟨m, M, hm1, hM, hm, hb⟩ := wrE _ q
    exact h2 m hm1 (x.rep.inj n m L M (by rw [h1]; simp) hm hL hM hb)
  · obtain ⟨o, ho1⟩ := Option.ne_none_iff_exists'.1 hn
    obtain ⟨o', ho2⟩ := Option.ne_none_iff_exists'.1 hk
    exact x.rep.inj n k L M (by rw [(apn n o ho1).1]; simp) (by rw [(apn k o' ho2).1]; simp)
  · rintro b (q | q)
    · exact Nat.lt_of_lt_of_le (x.rep.old b q) k4
    · rw [hO b q]
      obtain ⟨C, c1, _⟩ := ho
      exact (Array.getElem?_eq_some_iff.1 c1).1
  · refine x.below.step k1 k2 k3 k4 fun b hb hnew => k5 b hb (fun q => ?_)
    obtain ⟨m, M, hm1, hM, hm, rfl⟩ := wrE _ q
    exact hnew (x.own m M hm hM)
  · obtain ⟨o, ho1⟩ := Option.ne_none_iff_exists'.1 hn
    exact x.own n L (by rw [(apn n o ho1).1]; simp) hL
  · rintro b (q | q)
    · exact x.new b q
    · rw [hO b q]
      right
      rcases hL' with q | ⟨m, M, -, hM, hm, q⟩
      · left; omega
      · rw [q]; exact x.own m M hm hM

theorem call_core {tm : Tm} {h : Lk} {s : Nat → Option Loc} {I : Nat → Prop} {a : Act} {w : World} {f : Nat} {args : List V} {us : Array Value} {r : T} {o : Oper} {Q : Exit → Act → World → Prop} {dst : Option Nat} {K : Act → World → Prop} (x : StX w0 I0 N tm h s I a w) (hdst : o.dst = dst) (hb : ∀ n, dst = some n → n < N)
    (hrun : Runs P f → (execOp a.eval o).run P w = .ok (.enter f us) w) (hW : callW (Pure P) f args h (fun r' => r' = r)) (hsz : us.size = args.length) (hrl : ∀ (i : Nat) (x : V), args[i]? = some x → ∃ u, us[i]? = some u ∧ RelV s I w x u)
    (hK : ∀ u w' I', StX w0 I0 N (put tm dst (.t r)) h s I' (a.put dst u) w' → K (a.put dst u) w') : o.wp P a w K Q := by
  unfold callW at hW
  split at hW
  · exact hW.elim
  · rename_i ts hts
    obtain ⟨r', ⟨hruns, hpure⟩, hflat, hk⟩ := hW
    subst hk
    unfold Oper.wp
    rw [hrun hruns]
    rw [Oper.upon_enter]
    have hcl := (clo_rel x.rep 40).2 args ts hts
    have fin : ∀ (w' : World) (v : Value) (J : Nat → Prop), Below w.heap.size w w' → (∀ b, J b → w.heap.size ≤ b ∧ b < w'.heap.size) → RelT (fun b => I b ∨ J b) w' r' v → K (a.put o.dst v) w' := by
      intro w' v J hbel hJ hr
      have keepI : ∀ b, I b → w'.heap[b]? = w.heap[b]? := fun b hb => hbel.block b (x.rep.old b hb)
      rw [hdst]
      refine hK v w' (fun b => I b ∨ J b) ⟨by rw [tmps_put]; exact x.size, by rw [defers_put]; exact x.defers, ?_, ⟨?_, x.rep.inj, ?_⟩, x.below.below hbel, x.own, fun b hb => .inl (x.inc b hb), ?_, x.outer⟩
      · exact TmOk.put (fun t y hy => (x.tm t y hy).mono (fun _ h => .inl h) keepI) (.t _ _ hr) (fun n hn => by rw [x.size]; exact hb n hn)
      · intro n ob L hn hL
        obtain ⟨p1, p2⟩ := x.rep.own n ob L hn hL
        have hlt := x.rep.lt hn hL
        exact ⟨p1.mono (fun _ h => .inl h) keepI (hbel.block _ hlt) (fun _ _ h => h), fun q => q.elim p2 (fun j => by have := (hJ _ j).1; omega)⟩
      · intro b hb
        rcases hb with q | q
        · exact Nat.lt_of_lt_of_le (x.rep.old b q) hbel.size
        · exact (hJ b q).2
      · intro b hb
        rcases hb with q | q
        · exact x.new b q
        · have := (hJ b q).1; have := x.below.size; right; left; omega
    have hold : ∀ b, (I b ∨ Owned s h b) → b < w.heap.size := by
      rintro b (q | ⟨n, L, hn, hL, rfl⟩)
      · exact x.rep.old b q
      · obtain ⟨ob, hob⟩ := Option.ne_none_iff_exists'.1 hn
        exact x.rep.lt hob hL
    cases ha : allT args with
    | some ts' =>
      have e := cloL_allT hts ha
      subst e
      have hmap := allT_some ha
      refine (hpure I w us x.rep.old ⟨by rw [hsz, hmap]; simp, fun i y hx => ?_⟩).mono ?_
      · obtain ⟨u, p, q⟩ := hrl i (.t y) (by rw [hmap, List.getElem?_map, hx]; rfl)
        exact ⟨u, p, q.inv_t⟩
      · rintro e w' ⟨v, rfl, hbel, hr⟩
        exact fin w' v _ hbel (fun b h => h) hr
    | none =>
      rw [ha] at hflat
      refine (hpure (fun b => I b ∨ Owned s h b) w us hold ⟨by rw [hsz, hcl.1], fun i y hx => ?_⟩).mono ?_
      · obtain ⟨v, hv, hh⟩ := hcl.2 i y hx
        obtain ⟨u, p, q⟩ := hrl i v hv
        exact ⟨u, p, hh u q⟩
      · rintro e w' ⟨v, rfl, hbel, hr⟩
        exact fin w' v (fun _ => False) hbel (fun b h => h.elim) (flat_rel hflat hr)

theorem maker_core {tm : Tm} {h : Lk} {s : Nat → Option Loc} {I : Nat → Prop} {a : Act} {w : World} {f : Nat} {args : List V} {ts : List T} {us : Array Value} {v : V} {d : Nat} {ob : Ob} {o : Oper} {Q : Exit → Act → World → Prop} {K : Act → World → Prop} (x : StX w0 I0 N tm h s I a w) (hdst : o.dst = some d) (hb : ∀ n, o.dst = some n → n < N)
    (hrun : Runs P f → (execOp a.eval o).run P w = .ok (.enter f us) w) (hts : allT args = some ts) (hE : Eff P f (ts.map .t) [] v [(d, ob)]) (hsz : us.size = args.length) (hrl : ∀ (i : Nat) (x : V), args[i]? = some x → ∃ u, us[i]? = some u ∧ RelV s I w x u) (hsd : s d = none) (hdf : d < far)
    (hK : ∀ u s' w' I', StX w0 I0 N (put tm o.dst v) ((Ef.add ob).ap d h) s' I' (a.put o.dst u) w' → (∀ n, n ≠ d → s' n = s n) → K (a.put o.dst u) w') : o.wp P a w K Q := by
  obtain ⟨hruns, hE⟩ := hE
  have hno : ∀ b, ¬ Owned s (look ([] : Hp)) b := by rintro b ⟨n, L, hn, -⟩; exact hn rfl
  unfold Oper.wp
  rw [hrun hruns, Oper.upon_enter]
  refine (hE s I w us ⟨fun n o L hn => by simp [look] at hn, fun n m L M hn => by simp [look] at hn, x.rep.old⟩ ⟨by rw [hsz, allT_some hts], fun i y hy => hrl i y (by rw [allT_some hts]; exact hy)⟩).mono ?_
  rintro e w' ⟨u, s1, I1, rfl, hv, hrep1, hkept, kI, kI', kloc, kfar, knone⟩
  have newI : ∀ b, Base.New ⟨w, s, Owned s (look ([] : Hp))⟩ b → w.heap.size ≤ b := fun b h => h.elim id (fun q => (hno b q).elim)
  have hlk : ∀ n, look [(d, ob)] n = if n = d then some ob else none := fun n => by rw [look_cons]; rfl
  obtain ⟨s2, hs2⟩ : ∃ s2 : Nat → Option Loc, ∀ m, s2 m = if m = d then s1 d else s m := ⟨fun m => if m = d then s1 d else s m, fun _ => rfl⟩
  have fwd : ∀ n L, s1 n = some L → s2 n = some L := fun n L hL => by
    rw [hs2]
    by_cases e : n = d
    · subst e; rw [if_pos rfl]; exact hL
    · rw [if_neg e]
      by_cases hf : far ≤ n
      · rw [← kfar n hf]; exact hL
      · rw [knone n (by omega) (by rw [hlk, if_neg e])] at hL; cases hL
  have ext : ∀ n L, s n = some L → s2 n = some L := fun n L hL => by
    rw [hs2, if_neg (fun e => by subst e; rw [hsd] at hL; cases hL)]; exact hL
  have keepI : ∀ b, I b → w'.heap[b]? = w.heap[b]? := fun b hb => hkept.block b (x.rep.old b hb) (hno b)
  have hsz := x.below.size
  refine hK u s2 w' I1 ⟨by rw [tmps_put]; exact x.size, by rw [defers_put]; exact x.defers, TmOk.put (fun t y hy => ((x.tm t y hy).ext ext).mono kI keepI) (hv.ext fwd) (fun n hn => by rw [x.size]; exact hb n hn), ⟨fun n o L hn hL => ?_, fun n m L M hn hm hL hM e => ?_, hrep1.old⟩, x.below.step hkept.os hkept.tape hkept.output hkept.size (fun k hk _ => hkept.block k hk (hno k)), fun n L hn hL => ?_, fun b hb => kI b (x.inc b hb), fun b hb => ?_, fun n hn => by rw [hs2, if_neg (by omega)]; exact x.outer n hn⟩ (fun n hn => by rw [hs2, if_neg hn])
  · rw [hs2] at hL
    simp only [Ef.ap] at hn
    by_cases e : n = d
    · subst e
      rw [if_pos rfl] at hL hn
      cases hn
      obtain ⟨a1, a2⟩ := hrep1.own n ob L (by rw [hlk, if_pos rfl]) hL
      exact ⟨a1.mono (fun _ h => h) (fun _ _ => rfl) rfl (fun v u h => h.ext fwd), a2⟩
    · rw [if_neg e] at hL hn
      obtain ⟨a1, a2⟩ := x.rep.own n o L hn hL
      have hlt := x.rep.lt hn hL
      refine ⟨a1.mono kI keepI (hkept.block _ hlt (hno _)) (fun v u h => h.ext ext), fun q => ?_⟩
      rcases kI' _ q with q | q
      · exact a2 q
      · have := newI _ q; omega
  · have at_d : ∀ L, s1 d = some L → w.heap.size ≤ L.b := fun L hL => newI _ (kloc d L (by rw [hlk, if_pos rfl]; simp) hL)
    have rest : ∀ n L, n ≠ d → (Ef.add ob).ap d h n ≠ none → s n = some L → L.b < w.heap.size := fun n L e hn hL => by
      simp only [Ef.ap] at hn; rw [if_neg e] at hn
      obtain ⟨o', ho'⟩ := Option.ne_none_iff_exists'.1 hn
      exact x.rep.lt ho' hL
    rw [hs2] at hL hM
    by_cases e1 : n = d <;> by_cases e2 : m = d
    · rw [e1, e2]
    · rw [if_pos e1] at hL; rw [if_neg e2] at hM
      have := at_d L hL; have := rest m M e2 hm hM; omega
    · rw [if_neg e1] at hL; rw [if_pos e2] at hM
      have := at_d M hM; have := rest n L e1 hn hL; omega
    · rw [if_neg e1] at hL; rw [if_neg e2] at hM
      simp only [Ef.ap] at hn hm
      rw [if_neg e1] at hn; rw [if_neg e2] at hm
      exact x.rep.inj n m L M hn hm hL hM e
  · rw [hs2] at hL
    by_cases e : n = d
    · rw [if_pos e] at hL
      exact .inl (Nat.le_trans hsz (newI _ (kloc d L (by rw [hlk, if_pos rfl]; simp) hL)))
    · rw [if_neg e] at hL
      simp only [Ef.ap] at hn; rw [if_neg e] at hn
      exact x.own n L hn hL
  · rcases kI' b hb with q | q
    · exact x.new b q
    · exact .inr (.inl (Nat.le_trans hsz (newI b q)))

theorem qf_far (m : Nat) : qf m far = m := by simp [qf]
theorem qf_ne (m : Nat) {n : Nat} (h : n ≠ far) : qf m n = n := by
  unfold qf
  cases e : Nat.beq n far with
  | true => exact (h (Nat.eq_of_beq_eq_true e)).elim
  | false => rfl

/-- A call that is handed one object and gives one in its place. -/
theorem mov_core {tm : Tm} {h : Lk} {s : Nat → Option Loc} {I : Nat → Prop} {a : Act} {w : World} {f : Nat} {args args0 : List V} {us : Array Value} {v : V} {d m : Nat} {ob0 ob1 : Ob} {o : Oper} {Q : Exit → Act → World → Prop} {K : Act → World → Prop} (x : StX w0 I0 N tm h s I a w) (hb : ∀ n, o.dst = some n → n < N)
    (hrun : Runs P f → (execOp a.eval o).run P w = .ok (.enter f us) w) (hE : Eff P f args0 [(far, ob0)] v [(d, ob1)]) (hargs : args = V.renL (qf m) args0) (hm : h m = some (ob0.ren (qf m))) (hsz : us.size = args.length) (hrl : ∀ (i : Nat) (x : V), args[i]? = some x → ∃ u, us[i]? = some u ∧ RelV s I w x u) (hsd : s d = none) (hdf : d < far)
    (hK : ∀ u s' w' I', StX w0 I0 N (put tm o.dst (v.ren (qf m))) ((Ef.mov m (ob1.ren (qf m))).ap d h) s' I' (a.put o.dst u) w' → (∀ n, n ≠ d → s' n = s n) → K (a.put o.dst u) w') (hsm : ∃ L, s m = some L) : o.wp P a w K Q := by
  obtain ⟨hruns, hE⟩ := hE
  have hlk0 : ∀ n, look [(far, ob0)] n = if n = far then some ob0 else none := fun n => by rw [look_cons]; rfl
  have hlk : ∀ n, look [(d, ob1)] n = if n = d then some ob1 else none := fun n => by rw [look_cons]; rfl
  have hmd : m ≠ d := by rintro rfl; obtain ⟨L, hL⟩ := hsm; rw [hsd] at hL; cases hL
  have hownd : ∀ b, Owned (fun n => s (qf m n)) (look [(far, ob0)]) b → ∃ L, s m = some L ∧ L.b = b := by
    rintro b ⟨n, L, hn, hL, rfl⟩
    rw [hlk0] at hn
    by_cases e : n = far
    · subst e; have hL' : s (qf m far) = some L := hL; rw [qf_far] at hL'; exact ⟨L, hL', rfl⟩
    · rw [if_neg e] at hn; exact (hn rfl).elim
  have hownNew : ∀ b, Owned (fun n => s (qf m n)) (look [(far, ob0)]) b → w0.New b := fun b h => by
    obtain ⟨L, hL, rfl⟩ := hownd b h
    exact x.own m L (by rw [hm]; simp) hL
  unfold Oper.wp
  rw [hrun hruns, Oper.upon_enter]
  refine (hE (fun n => s (qf m n)) I w us ⟨fun n o L hn hL => ?_, fun n k L M hn hk hL hM e => ?_, x.rep.old⟩ ⟨by rw [hsz, hargs, renL_length], fun i y hy => ?_⟩).mono ?_
  · rw [hlk0] at hn
    by_cases e : n = far
    · subst e; rw [if_pos rfl] at hn; cases hn
      have hL' : s (qf m far) = some L := hL
      rw [qf_far] at hL'
      obtain ⟨a1, a2⟩ := x.rep.own m _ L hm hL'
      exact ⟨own_ren a1, a2⟩
    · rw [if_neg e] at hn; cases hn
  · rw [hlk0] at hn hk
    by_cases e1 : n = far
    · by_cases e2 : k = far
      · rw [e1, e2]
      · rw [if_neg e2] at hk; exact (hk rfl).elim
    · rw [if_neg e1] at hn; exact (hn rfl).elim
  · obtain ⟨u, hu, hr⟩ := hrl i (y.ren (qf m)) (by rw [hargs, renL_get, hy]; rfl)
    exact ⟨u, hu, relV_ren hr y rfl⟩
  rintro e w' ⟨u, s1, I1, rfl, hv, hrep1, hkept, kI, kI', kloc, kfar, knone⟩
  obtain ⟨s2, hs2⟩ : ∃ s2 : Nat → Option Loc, ∀ n, s2 n = if n = d then s1 d else s n := ⟨fun n => if n = d then s1 d else s n, fun _ => rfl⟩
  have fwd : ∀ n L, s1 n = some L → s2 (qf m n) = some L := fun n L hL => by
    by_cases e : n = d
    · subst e; rw [qf_ne m (by omega), hs2, if_pos rfl]; exact hL
    · by_cases hf : far ≤ n
      · rw [kfar n hf] at hL
        rw [hs2, if_neg]; exact hL
        by_cases e2 : n = far
        · subst e2; rw [qf_far]; exact hmd
        · rw [qf_ne m e2]; exact e
      · rw [knone n (by omega) (by rw [hlk, if_neg e])] at hL; cases hL
  have ext : ∀ n L, s n = some L → s2 n = some L := fun n L hL => by
    rw [hs2, if_neg (fun e => by subst e; rw [hsd] at hL; cases hL)]; exact hL
  have keepI : ∀ b, I b → w'.heap[b]? = w.heap[b]? := fun b hb => hkept.block b (x.rep.old b hb) (fun ho => by
    obtain ⟨L, hL, rfl⟩ := hownd b ho
    exact (x.rep.own m _ L hm hL).2 hb)
  have hwsz := x.below.size
  have newNew : ∀ b, Base.New ⟨w, fun n => s (qf m n), Owned (fun n => s (qf m n)) (look [(far, ob0)])⟩ b → w0.New b := fun b hb => by
    rcases hb with q | q
    · exact .inl (Nat.le_trans hwsz q)
    · exact hownNew b q
  have noOwn : ∀ n o L, n ≠ m → h n = some o → s n = some L → ¬ Owned (fun n => s (qf m n)) (look [(far, ob0)]) L.b := fun n o L hne hn hL hO => by
    obtain ⟨L', hL', e⟩ := hownd _ hO
    exact hne (x.rep.inj n m L L' (by rw [hn]; simp) (by rw [hm]; simp) hL hL' e.symm)
  have ap : ∀ n, (Ef.mov m (ob1.ren (qf m))).ap d h n = if n = d then some (ob1.ren (qf m)) else if n = m then none else h n := fun n => rfl
  have rest : ∀ n, n ≠ d → (Ef.mov m (ob1.ren (qf m))).ap d h n ≠ none → n ≠ m ∧ ∃ o, h n = some o := fun n e hn => by
    rw [ap, if_neg e] at hn
    by_cases e2 : n = m
    · rw [if_pos e2] at hn; exact (hn rfl).elim
    · rw [if_neg e2] at hn; exact ⟨e2, Option.ne_none_iff_exists'.1 hn⟩
  have at_d : ∀ L, s1 d = some L → Base.New ⟨w, fun n => s (qf m n), Owned (fun n => s (qf m n)) (look [(far, ob0)])⟩ L.b := fun L hL => kloc d L (by rw [hlk, if_pos rfl]; simp) hL
  have apart : ∀ n o L M, n ≠ m → h n = some o → s n = some L → s1 d = some M → L.b ≠ M.b := fun n o L M hne hn hL hM e => by
    have hlt := x.rep.lt hn hL
    rcases at_d M hM with q | q
    · have : w.heap.size ≤ M.b := q
      omega
    · exact noOwn n o L hne hn hL (by rw [e]; exact q)
  refine hK u s2 w' I1 ⟨by rw [tmps_put]; exact x.size, by rw [defers_put]; exact x.defers, TmOk.put (fun t y hy => ((x.tm t y hy).ext ext).mono kI keepI) (hv.fwd fwd) (fun n hn => by rw [x.size]; exact hb n hn), ⟨fun n o L hn hL => ?_, fun n k L M hn hk hL hM e => ?_, hrep1.old⟩, x.below.step hkept.os hkept.tape hkept.output hkept.size (fun k hk hnew => hkept.block k hk (fun q => hnew (hownNew k q))), fun n L hn hL => ?_, fun b hb => kI b (x.inc b hb), fun b hb => ?_, fun n hn => by rw [hs2, if_neg (by omega)]; exact x.outer n hn⟩ (fun n hn => by rw [hs2, if_neg hn])
  · rw [hs2] at hL
    by_cases e : n = d
    · subst e
      rw [if_pos rfl] at hL
      rw [ap, if_pos rfl] at hn
      cases hn
      obtain ⟨a1, a2⟩ := hrep1.own n ob1 L (by rw [hlk, if_pos rfl]) hL
      exact ⟨a1.fwd fwd, a2⟩
    · rw [if_neg e] at hL
      obtain ⟨hnm, -⟩ := rest n e (by rw [hn]; simp)
      rw [ap, if_neg e, if_neg hnm] at hn
      obtain ⟨a1, a2⟩ := x.rep.own n o L hn hL
      have hlt := x.rep.lt hn hL
      have hno := noOwn n o L hnm hn hL
      refine ⟨a1.mono kI keepI (hkept.block _ hlt hno) (fun v u h => h.ext ext), fun q => ?_⟩
      rcases kI' _ q with q | q | q
      · exact a2 q
      · have : w.heap.size ≤ L.b := q
        omega
      · exact hno q
  · rw [hs2] at hL hM
    by_cases e1 : n = d <;> by_cases e2 : k = d
    · rw [e1, e2]
    · rw [if_pos e1] at hL; rw [if_neg e2] at hM
      obtain ⟨q1, o', q2⟩ := rest k e2 hk
      exact (apart k o' M L q1 q2 hM hL e.symm).elim
    · rw [if_neg e1] at hL; rw [if_pos e2] at hM
      obtain ⟨q1, o', q2⟩ := rest n e1 hn
      exact (apart n o' L M q1 q2 hL hM e).elim
    · rw [if_neg e1] at hL; rw [if_neg e2] at hM
      obtain ⟨q1, o', q2⟩ := rest n e1 hn
      obtain ⟨q3, o2, q4⟩ := rest k e2 hk
      exact x.rep.inj n k L M (by rw [q2]; simp) (by rw [q4]; simp) hL hM e
  · rw [hs2] at hL
    by_cases e : n = d
    · rw [if_pos e] at hL
      exact newNew _ (at_d L hL)
    · rw [if_neg e] at hL
      obtain ⟨q1, o', q2⟩ := rest n e hn
      exact x.own n L (by rw [q2]; simp) hL
  · rcases kI' b hb with q | q
    · exact x.new b q
    · exact .inr (newNew b q)

/-- The slots that a step looks at read alike. -/
theorem StX.tm' {tm tm' : Tm} {h : Lk} {s : Nat → Option Loc} {I : Nat → Prop} {a : Act} {w : World} (x : StX w0 I0 N tm h s I a w) (e : ∀ t, look tm' t = look tm t) : StX w0 I0 N tm' h s I a w :=
  ⟨x.size, x.defers, fun t v hv => x.tm t v (by rw [← e]; exact hv), x.rep, x.below, x.own, x.inc, x.new, x.outer⟩

theorem look_put (tm : Tm) (d : Option Nat) (v : V) (t : Nat) : look (put tm d v) t = if d = some t then some v else look tm t := by
  cases d with
  | none => simp [put]
  | some n =>
    simp only [put, look_cons]
    by_cases e : t = n
    · subst e; simp
    · simp [e, Ne.symm e]

theorem StX.str {tm : Tm} {h : Lk} {s : Nat → Option Loc} {I : Nat → Prop} {a : Act} {w : World} (x : StX w0 I0 N tm h s I a w) : StR w0 I0 N ⟨tm, []⟩ a w :=
  ⟨s, I, x.size, x.defers, x.tm, ⟨fun n o L hn => by simp [look] at hn, fun n m L M hn => by simp [look] at hn, x.rep.old⟩, x.below, fun n L hn => by simp [look] at hn, x.inc, x.new, x.outer⟩

end

def below (j : Nat) : Nat → Bool := fun i => Nat.blt i j
def plus (S : Nat → Bool) (j : Nat) : Nat → Bool := fun i => S i || Nat.beq i j

theorem below_iff {j i : Nat} : below j i = true ↔ i < j := by
  unfold below
  exact ⟨fun h => Nat.le_of_ble_eq_true h, fun h => Nat.ble_eq_true_of_le h⟩
theorem below_no {j i : Nat} (h : ¬ i < j) : below j i = false := Bool.eq_false_iff.2 fun e => h (below_iff.1 e)
theorem plus_self (S : Nat → Bool) (j : Nat) : plus S j j = true := by simp [plus]
theorem plus_ne (S : Nat → Bool) {j i : Nat} (h : i ≠ j) : plus S j i = S i := by simp [plus, beq_no h]

theorem trOpers_get {P : Program} {rops : Array Oper} : ∀ {l : List Oper} {ops : List OpI}, trOpers P rops true l = some ops → ops.length = l.length ∧ ∀ (i : Nat) (oi : OpI), ops[i]? = some oi → ∃ o, l[i]? = some o ∧ trOper P rops true o = some oi
  | [], ops, h => by simp [trOpers] at h; subst h; simp
  | o :: r, ops, h => by
    simp only [trOpers] at h
    split at h
    · rename_i x xs h1 h2
      cases h
      obtain ⟨a, b⟩ := trOpers_get h2
      refine ⟨by simp [a], fun i oi hi => ?_⟩
      cases i with
      | zero => simp at hi; subst hi; exact ⟨o, rfl, h1⟩
      | succ i => simpa using b i oi (by simpa using hi)
    · cases h

section
variable {C : Ctr} {ops : List OpI} {st0 stn : St} {l : List (V × Ef)}

theorem tmK_plus (hD : Dist ops) (hlen : l.length = ops.length) {S : Nat → Bool} {j : Nat} {o : OpI} {v : V} {e : Ef} (ho : ops[j]? = some o) (hl : l[j]? = some (v, e)) (hS : S j = false) (tm : Tm) (t : Nat) :
    look (tmK (plus S j) 0 ops l tm) t = if o.dst = some t then some v else look (tmK S 0 ops l tm) t := by
  by_cases hd : o.dst = some t
  · rw [if_pos hd]
    exact tmK_in (plus S j) 0 ops l tm j o v e t hD ho hl (by rw [Nat.zero_add]; exact plus_self S j) hd
  · rw [if_neg hd]
    by_cases hex : ∃ i o', ops[i]? = some o' ∧ S i = true ∧ o'.dst = some t
    · obtain ⟨i, o', hi, hSi, hdi⟩ := hex
      have hij : i ≠ j := by intro q; subst q; rw [hS] at hSi; cases hSi
      have hli : ∃ v' e', l[i]? = some (v', e') := by
        have : i < l.length := by rw [hlen]; exact (List.getElem?_eq_some_iff.1 hi).1
        exact ⟨l[i].1, l[i].2, by rw [List.getElem?_eq_getElem this]⟩
      obtain ⟨v', e', hli⟩ := hli
      rw [tmK_in (plus S j) 0 ops l tm i o' v' e' t hD hi hli (by rw [Nat.zero_add, plus_ne S hij]; exact hSi) hdi, tmK_in S 0 ops l tm i o' v' e' t hD hi hli (by rw [Nat.zero_add]; exact hSi) hdi]
    · have out : ∀ (i : Nat) (o' : OpI), ops[i]? = some o' → S i = true → o'.dst ≠ some t := fun i o' hi hSi hdi => hex ⟨i, o', hi, hSi, hdi⟩
      rw [tmK_out (plus S j) t 0 ops l tm (fun i o' hi hSi => ?_), tmK_out S t 0 ops l tm (fun i o' hi hSi => out i o' hi (by simpa using hSi))]
      rw [Nat.zero_add] at hSi
      by_cases hij : i = j
      · subst hij; rw [ho] at hi; cases hi; exact hd
      · rw [plus_ne S hij] at hSi; exact out i o' hi hSi

theorem below_succ (j : Nat) : below (j + 1) = plus (below j) j := by
  funext i
  by_cases e : i = j
  · subst e; rw [plus_self]; exact below_iff.2 (by omega)
  · rw [plus_ne _ e]
    by_cases h : i < j
    · rw [below_iff.2 h]; exact below_iff.2 (by omega)
    · rw [below_no h]; exact below_no (by omega)

theorem tm_text (hD : Dist ops) (hrun : DRun C ops st0 l stn) : ∀ (j : Nat), j ≤ ops.length → ∀ t, look (stAt ops st0 l j).tm t = look (tmK (below j) 0 ops l st0.tm) t := by
  obtain ⟨hlen, -, hat⟩ := drun_at hrun
  intro j
  induction j with
  | zero =>
    intro _ t
    have h0 : stAt ops st0 l 0 = st0 := by cases ops <;> cases l <;> rfl
    rw [h0, tmK_out (below 0) t 0 ops l st0.tm (fun i o _ hS => by rw [below_iff] at hS; omega)]
  | succ j ih =>
    intro hj t
    have ho := List.getElem?_eq_getElem (l := ops) (i := j) (by omega)
    obtain ⟨v, e, h1, -, h3⟩ := hat j _ ho
    rw [h3, below_succ, tmK_plus hD hlen ho h1 (below_no (by omega))]
    simp only [nextSt, look_put]
    split
    · rfl
    · exact ih (by omega) t

theorem DStep.kind {o : OpI} {st : St} {v : V} {e : Ef} (h : DStep C o st v e) : (o.ins.isW = false → e = .non ∨ ∃ c, e = .add c) ∧ (∀ c, e = .add c → o.ins.makes = true ∧ ∃ d, o.dst = some d ∧ look st.hp d = none) ∧
    (∀ m c, e = .mov m c → (o.ins.makes = true ∧ ∃ d, o.dst = some d ∧ look st.hp d = none) ∧ look st.hp m ≠ none) ∧ (∀ m c, e = .set m c → look st.hp m ≠ none) ∧ (∀ m, e = .del m → look st.hp m ≠ none) := by
  have non : e = .non → (o.ins.isW = false → e = .non ∨ ∃ c, e = .add c) ∧ (∀ c, e = .add c → o.ins.makes = true ∧ ∃ d, o.dst = some d ∧ look st.hp d = none) ∧
    (∀ m c, e = .mov m c → (o.ins.makes = true ∧ ∃ d, o.dst = some d ∧ look st.hp d = none) ∧ look st.hp m ≠ none) ∧ (∀ m c, e = .set m c → look st.hp m ≠ none) ∧ (∀ m, e = .del m → look st.hp m ≠ none) := by
    rintro rfl; exact ⟨fun _ => .inl rfl, (fun o q => by cases q), (fun m o q => by cases q), (fun m o q => by cases q), (fun m q => by cases q)⟩
  rcases h with ⟨-, ⟨f, args, r, -, he, -⟩ | ⟨f, args, ts, d, ob, hc, -, hd, rfl, -, hfr⟩ | ⟨f, args, args0, d, m, ob0, ob1, v0, hc, hw, hd, rfl, -, -, -, -, hlm, hfr⟩ | ⟨-, hev, hf⟩⟩ | ⟨g, want, -, -, -, he⟩
  · exact non he
  · have hmk : o.ins.makes = true := by
      cases hi : o.ins <;> rw [hi] at hc <;> simp [callee] at hc <;> rfl
    exact ⟨fun _ => .inr ⟨ob, rfl⟩, fun c _ => ⟨hmk, d, hd, Option.isNone_iff_eq_none.1 hfr⟩, (fun m c q => by cases q), (fun m c q => by cases q), (fun m q => by cases q)⟩
  · have hmk : o.ins.makes = true := by
      cases hi : o.ins <;> rw [hi] at hc <;> simp [callee] at hc <;> rfl
    exact ⟨(fun q => by rw [hw] at q; cases q), (fun c q => by cases q), (fun m' c q => by cases q; exact ⟨⟨hmk, d, hd, Option.isNone_iff_eq_none.1 hfr⟩, by rw [hlm]; simp⟩), (fun m' c q => by cases q), (fun m q => by cases q)⟩
  · obtain ⟨k1, k2, k3, k4, k5⟩ := ev_kind hev
    have fr : (∃ c, e = .add c) ∨ (∃ m c, e = .mov m c) → ∃ d, o.dst = some d ∧ look st.hp d = none := by
      intro q
      have : (match o.dst with | some d => (look st.hp d).isNone | none => false) = true := by
        rcases q with ⟨c, rfl⟩ | ⟨m, c, rfl⟩ <;> exact hf
      cases hd : o.dst with
      | none => rw [hd] at this; cases this
      | some d => rw [hd] at this; exact ⟨d, rfl, Option.isNone_iff_eq_none.1 this⟩
    exact ⟨k1, fun c q => ⟨k2 c q, fr (.inl ⟨c, q⟩)⟩, fun m c q => ⟨⟨(k3 m c q).1, fr (.inr ⟨m, c, q⟩)⟩, (k3 m c q).2⟩, k4, k5⟩
  · exact non he

theorem mem_news {o : OpI} {j d : Nat} (ho : ops[j]? = some o) (hm : o.ins.makes = true) (hd : o.dst = some d) : d ∈ news ops := by
  unfold news
  rw [List.mem_filterMap]
  exact ⟨o, List.mem_of_getElem? ho, by rw [hm]; exact hd⟩

/-- Memory in the text's order lies within memory as any order has it. -/
theorem hp_text (hD : Dist ops) (hrun : DRun C ops st0 l stn) (hcl : ∀ d ∈ news ops, look st0.hp d = none) : ∀ (j : Nat), j ≤ ops.length →
    Sub (look (stAt ops st0 l j).hp) (xK (below j) 0 ops l (preK ops l (look st0.hp))) ∧
    (∀ (q : Nat) (o : OpI) (v : V) (c : Ob) (d : Nat), j ≤ q → ops[q]? = some o → l[q]? = some (v, .add c) → o.dst = some d → xK (below j) 0 ops l (preK ops l (look st0.hp)) d = some c) ∧
    (∀ (q : Nat) (o : OpI) (d : Nat), j ≤ q → ops[q]? = some o → o.ins.makes = true → o.dst = some d → look (stAt ops st0 l j).hp d = none) := by
  obtain ⟨hlen, -, hat⟩ := drun_at hrun
  have hsome : ∀ (i : Nat) (o : OpI) (v : V) (c : Ob), ops[i]? = some o → l[i]? = some (v, .add c) → o.ins.makes = true ∧ ∃ d, o.dst = some d := by
    intro i o v c hi hl
    obtain ⟨v', e', h1, h2, -⟩ := hat i o hi
    rw [hl] at h1; cases h1
    obtain ⟨a, d, b, -⟩ := h2.kind.2.1 c rfl
    exact ⟨a, d, b⟩
  intro j
  induction j with
  | zero =>
    intro _
    have h0 : stAt ops st0 l 0 = st0 := by cases ops <;> cases l <;> rfl
    rw [h0, xK_none (below 0) 0 ops l _ (fun i o _ _ => below_no (by omega))]
    refine ⟨fun m o hm => ?_, fun q o v c d _ ho hl hd => preK_in ops l _ q o v c d hD (fun i o v c hi hl => (hsome i o v c hi hl).2) ho hl hd, fun q o d _ ho hm hd => hcl d (mem_news ho hm hd)⟩
    rw [preK_out m ops l _ (fun i o' v c hi hl he => ?_)]; exact hm
    obtain ⟨hmk, d, hd⟩ := hsome i o' v c hi hl
    rw [hd] at he; simp at he; subst he
    rw [hcl d (mem_news hi hmk hd)] at hm; cases hm
  | succ j ih =>
    intro hj
    obtain ⟨i1, i2, i3⟩ := ih (by omega)
    have ho := List.getElem?_eq_getElem (l := ops) (i := j) (by omega)
    obtain ⟨v, e, h1, h2, h3⟩ := hat j _ ho
    obtain ⟨k1, k2, k3, k4, k5⟩ := h2.kind
    have hne : ∀ q o d, j + 1 ≤ q → ops[q]? = some o → o.dst = some d → ops[j].dst ≠ some d := fun q o d hq hoq hdq he => by have := hD q j o ops[j] d hoq ho hdq he; omega
    rw [h3]
    simp only [nextSt]
    rw [Ef.look_hp']
    cases hw : ops[j].ins.isW with
    | false =>
      have hx : xK (below (j + 1)) 0 ops l (preK ops l (look st0.hp)) = xK (below j) 0 ops l (preK ops l (look st0.hp)) := by
        refine xK_congr _ _ 0 ops l _ (fun i o hi hwi => ?_)
        rw [Nat.zero_add, below_succ]
        by_cases e : i = j
        · subst e; rw [ho] at hi; cases hi; rw [hw] at hwi; cases hwi
        · exact plus_ne _ e
      rw [hx]
      rcases k1 hw with rfl | ⟨c, rfl⟩
      · exact ⟨i1, fun q o v c d hq => i2 q o v c d (by omega), fun q o d hq => i3 q o d (by omega)⟩
      · obtain ⟨-, d, hd, hfr⟩ := k2 c rfl
        rw [hd]
        simp only [Option.getD_some]
        refine ⟨fun m o hm => ?_, fun q o v c d hq => i2 q o v c d (by omega), fun q o d' hq hoq hmk hdq => ?_⟩
        · simp only [Ef.ap] at hm
          split at hm
          · rename_i e; subst e; cases hm; exact i2 j _ v c m (Nat.le_refl _) ho h1 hd
          · exact i1 m o hm
        · have := hne q o d' hq hoq hdq
          rw [hd] at this
          simp only [Ef.ap]
          rw [if_neg (fun e => this (by rw [e]))]
          exact i3 q o d' (by omega) hoq hmk hdq
    | true =>
      have hx := xK_last (below j) (below (j + 1)) j 0 ops l (preK ops l (look st0.hp)) ops[j] v e ho h1 hw (by rw [Nat.zero_add]; exact below_no (by omega)) (by rw [Nat.zero_add]; exact below_iff.2 (by omega))
        (fun i hi => by rw [Nat.zero_add, below_succ]; exact plus_ne _ hi) (fun i o' _ hlt _ => by rw [Nat.zero_add]; exact below_no (by omega))
      rw [hx]
      cases e with
      | non => exact ⟨i1, fun q o v c d hq => i2 q o v c d (by omega), fun q o d hq => i3 q o d (by omega)⟩
      | add c =>
        obtain ⟨-, d, hd, hfr⟩ := k2 c rfl
        rw [hd]
        simp only [Option.getD_some]
        refine ⟨fun m o hm => ?_, fun q o v c' d' hq hoq hlq hdq => ?_, fun q o d' hq hoq hmk hdq => ?_⟩
        · simp only [Ef.ap] at hm ⊢
          split at hm
          · rename_i e; rw [if_pos e]; exact hm
          · rename_i e; rw [if_neg e]; exact i1 m o hm
        · have := hne q o d' hq hoq hdq
          rw [hd] at this
          simp only [Ef.ap]
          rw [if_neg (fun e => this (by rw [e]))]
          exact i2 q o v c' d' (by omega) hoq hlq hdq
        · have := hne q o d' hq hoq hdq
          rw [hd] at this
          simp only [Ef.ap]
          rw [if_neg (fun e => this (by rw [e]))]
          exact i3 q o d' (by omega) hoq hmk hdq
      | set m c =>
        have hm := k4 m c rfl
        have hmd : ∀ q o d', j + 1 ≤ q → ops[q]? = some o → o.ins.makes = true → o.dst = some d' → d' ≠ m := fun q o d' hq hoq hmk hdq e => by
          subst e; exact hm (i3 q o d' (by omega) hoq hmk hdq)
        refine ⟨fun n o hn => ?_, fun q o v c' d' hq hoq hlq hdq => ?_, fun q o d' hq hoq hmk hdq => ?_⟩
        · simp only [Ef.ap] at hn ⊢
          split at hn
          · rename_i e; rw [if_pos e]; exact hn
          · rename_i e; rw [if_neg e]; exact i1 n o hn
        · simp only [Ef.ap]
          rw [if_neg (hmd q o d' hq hoq (hsome q o v c' hoq hlq).1 hdq)]
          exact i2 q o v c' d' (by omega) hoq hlq hdq
        · simp only [Ef.ap]
          rw [if_neg (hmd q o d' hq hoq hmk hdq)]
          exact i3 q o d' (by omega) hoq hmk hdq
      | del m =>
        have hm := k5 m rfl
        have hmd : ∀ q o d', j + 1 ≤ q → ops[q]? = some o → o.ins.makes = true → o.dst = some d' → d' ≠ m := fun q o d' hq hoq hmk hdq e => by
          subst e; exact hm (i3 q o d' (by omega) hoq hmk hdq)
        refine ⟨fun n o hn => ?_, fun q o v c' d' hq hoq hlq hdq => ?_, fun q o d' hq hoq hmk hdq => ?_⟩
        · simp only [Ef.ap] at hn ⊢
          split at hn
          · cases hn
          · rename_i e2; rw [if_neg e2]; exact i1 n o hn
        · simp only [Ef.ap]
          rw [if_neg (hmd q o d' hq hoq (hsome q o v c' hoq hlq).1 hdq)]
          exact i2 q o v c' d' (by omega) hoq hlq hdq
        · simp only [Ef.ap]
          rw [if_neg (hmd q o d' hq hoq hmk hdq)]
          exact i3 q o d' (by omega) hoq hmk hdq
      | mov m c =>
        obtain ⟨⟨-, d, hd, hfr⟩, hm⟩ := k3 m c rfl
        rw [hd]
        simp only [Option.getD_some]
        have hmd : ∀ q o d', j + 1 ≤ q → ops[q]? = some o → o.ins.makes = true → o.dst = some d' → d' ≠ m := fun q o d' hq hoq hmk hdq e => by
          subst e; exact hm (i3 q o d' (by omega) hoq hmk hdq)
        have hdd : ∀ q o d', j + 1 ≤ q → ops[q]? = some o → o.dst = some d' → d' ≠ d := fun q o d' hq hoq hdq e => by
          have := hne q o d' hq hoq hdq; rw [hd] at this; exact this (by rw [e])
        refine ⟨fun n o hn => ?_, fun q o v c' d' hq hoq hlq hdq => ?_, fun q o d' hq hoq hmk hdq => ?_⟩
        · simp only [Ef.ap] at hn ⊢
          split at hn
          · rename_i e; rw [if_pos e]; exact hn
          · rename_i e
            split at hn
            · cases hn
            · rename_i e2; rw [if_neg e, if_neg e2]; exact i1 n o hn
        · simp only [Ef.ap]
          rw [if_neg (hdd q o d' hq hoq hdq), if_neg (hmd q o d' hq hoq (hsome q o v c' hoq hlq).1 hdq)]
          exact i2 q o v c' d' (by omega) hoq hlq hdq
        · simp only [Ef.ap]
          rw [if_neg (hdd q o d' hq hoq hdq), if_neg (hmd q o d' hq hoq hmk hdq)]
          exact i3 q o d' (by omega) hoq hmk hdq

end

section
variable {P : Program} {w0 : Base} {I0 : Nat → Prop} {N : Nat} {rops : Array Oper} {ops : List OpI} {st0 stn : St} {l : List (V × Ef)} {Q : Exit → Act → World → Prop}

def done (listed : Array Bool) : Nat → Bool := fun i => listed.getD i false

theorem reach_lt {ops : List OpI} (ok : OkD ops) {a b : Nat} (r : Reach (aftOf ops) a b) : a < b := by
  have one : ∀ a b, a ∈ aftOf ops b → a < b := by
    intro a b h
    unfold aftOf at h
    cases hb' : ops[b]? with
    | none => rw [hb'] at h; cases h
    | some ob => rw [hb'] at h; exact ok.lt b ob hb' _ h
  induction r with
  | one h => exact one _ _ h
  | more h _ ih => exact Nat.lt_trans ih (one _ _ h)

theorem xK_at (S S' : Nat → Bool) (n : Nat) : ∀ (k : Nat) (ops : List OpI) (l : List (V × Ef)) (h h' : Lk), (∀ (i : Nat) (o : OpI) (v : V) (e : Ef), ops[i]? = some o → l[i]? = some (v, e) → o.ins.isW = true → S (k + i) = S' (k + i) ∨ ∀ hh : Lk, e.ap (o.dst.getD 0) hh n = hh n) → h n = h' n → xK S k ops l h n = xK S' k ops l h' n
  | k, [], l, h, h', _, he => by cases l <;> exact he
  | k, o :: r, [], h, h', _, he => he
  | k, o :: r, (v, e) :: l, h, h', hn, he => by
    have cg : e.ap (o.dst.getD 0) h n = e.ap (o.dst.getD 0) h' n := by
      cases e with
      | non => exact he
      | add c => simp only [Ef.ap]; rw [he]
      | set m c => simp only [Ef.ap]; rw [he]
      | mov m c => simp only [Ef.ap]; rw [he]
      | del m => simp only [Ef.ap]; rw [he]
    simp only [xK]
    refine xK_at S S' n (k + 1) r l _ _ (fun i o' v' e' hi hl hw => by have := hn (i + 1) o' v' e' (by simpa using hi) (by simpa using hl) hw; rwa [show k + (i + 1) = k + 1 + i by omega] at this) ?_
    cases hw : o.ins.isW with
    | false => simp [he]
    | true =>
      rcases hn 0 o v e rfl rfl hw with q | q
      · simp only [Nat.add_zero] at q; rw [q]
        cases S' k <;> simp [he, cg]
      · cases S k <;> cases S' k <;> simp [he, q]

theorem tch_ap {C : Ctr} {ops : List OpI} {st0 stn : St} {l : List (V × Ef)} (hD : Dist ops) (hrun : DRun C ops st0 l stn) {i : Nat} {o : OpI} {v : V} {e : Ef} {L : List Nat} (ho : ops[i]? = some o) (hl : l[i]? = some (v, e)) (ht : tch ops o i = some L) {n : Nat} (hn : n ∉ L) : ∀ hh : Lk, e.ap (o.dst.getD 0) hh n = hh n := by
  obtain ⟨hlen, -, hat⟩ := drun_at hrun
  have tmt := tm_text hD hrun
  obtain ⟨v', e', hl', hs, -⟩ := hat i o ho
  rw [hl] at hl'; cases hl'
  -- a new object's slot names it
  have slot : ∀ k, newAt ops k i = true → (∀ m a b, get (stAt ops st0 l i).tm k = .ptr m a b → m = k) ∧ (∀ m z a b, get (stAt ops st0 l i).tm k = .slc m z a b → m = k) := by
    intro k hk
    obtain ⟨k', on, hlt, hon, hdn, hins⟩ := newAt_spec hk
    obtain ⟨vn, en, hln, hsn, -⟩ := hat k' on hon
    have hil : i < ops.length := (List.getElem?_eq_some_iff.1 ho).1
    have hg : get (stAt ops st0 l i).tm k = vn := by
      unfold get
      rw [tmt i (by omega) k, tmK_in _ 0 ops l _ k' on vn en k hD hon hln (by rw [Nat.zero_add]; exact below_iff.2 hlt) hdn]
    rw [hg]
    rcases hsn with ⟨-, ⟨f, args, r, hc, -⟩ | ⟨f, args, ts, d, ob, hc, -⟩ | ⟨f, args, args0, d, m, ob0, ob1, v0, hc, -⟩ | ⟨-, hev, -⟩⟩ | ⟨g, want, -, -, hv, -⟩
    · rcases hins with ⟨z, q⟩ | ⟨ty, z, m, ps, q⟩ <;> rw [q] at hc <;> cases hc
    · rcases hins with ⟨z, q⟩ | ⟨ty, z, m, ps, q⟩ <;> rw [q] at hc <;> cases hc
    · rcases hins with ⟨z, q⟩ | ⟨ty, z, m, ps, q⟩ <;> rw [q] at hc <;> cases hc
    · rw [hdn] at hev
      rcases hins with ⟨z, q⟩ | ⟨ty, z, m, ps, q⟩
      · rw [q] at hev
        simp only [ev, Option.some.injEq, Prod.mk.injEq, Option.getD_some] at hev
        obtain ⟨q1, -⟩ := hev
        subst q1
        exact ⟨(fun m a b h => by cases h; rfl), (fun m z a b h => by cases h)⟩
      · rw [q] at hev
        simp only [ev, Option.getD_some] at hev
        split at hev
        · cases hev
        · split at hev
          · cases hev
          · cases hev; exact ⟨(fun m a b h => by cases h), (fun m z a b h => by cases h; rfl)⟩
    · subst hv; exact ⟨(fun m a b h => by cases h), (fun m z a b h => by cases h)⟩
  have main : callee (stAt ops st0 l i).tm o.ins = none → ev o.ins (o.dst.getD 0) (stAt ops st0 l i).tm (look (stAt ops st0 l i).hp) = some (v, e) → ∀ hh : Lk, e.ap (o.dst.getD 0) hh n = hh n := by
    intro _ hev
    unfold tch at ht
    split at ht
    · rename_i n0 k v0 e1
      split at ht
      · rename_i hk
        cases ht
        rw [e1] at hev
        simp only [ev, Option.map_eq_some_iff] at hev
        obtain ⟨e', he', heq⟩ := hev
        cases heq
        simp only [opd] at he'
        have hs1 := (slot k hk).1
        unfold evSt at he'
        split at he'
        · rename_i m x y hg
          have hm := hs1 m x y hg
          have : ∃ c, e = .set m c := by
            repeat' (split at he')
            all_goals first | (cases he'; done) | (cases he'; exact ⟨_, rfl⟩)
          obtain ⟨c, rfl⟩ := this
          intro hh
          simp only [Ef.ap]
          rw [if_neg (by intro q; exact hn (by rw [q, hm]; simp))]
        · cases he'
      · cases ht
    · rename_i ty z b k y d e1 e2
      split at ht
      · rename_i hk
        cases ht
        rw [e1] at hev
        simp only [ev] at hev
        split at hev
        · cases hev
        · rename_i ys _
          simp only [opd] at hev
          have hs2 := (slot k hk).2
          rw [e2] at hev ⊢
          simp only [Option.getD_some] at hev ⊢
          have nd : n ≠ d := by intro q; exact hn (by rw [q]; simp)
          have nk : n ≠ k := by intro q; exact hn (by rw [q]; simp)
          have : e = .non ∨ (∃ c, e = .add c) ∨ ∃ c, e = .mov k c := by
            unfold evApp at hev
            split at hev
            · split at hev
              · cases hev; exact .inl rfl
              · split at hev
                · cases hev; exact .inr (.inl ⟨_, rfl⟩)
                · cases hev
            · rename_i m z0 len hg
              have hm := hs2 _ _ _ _ hg
              subst hm
              right; right
              repeat' (split at hev)
              all_goals first | (cases hev; done) | (cases hev; exact ⟨_, rfl⟩)
            · split at hev
              · cases hev; exact .inl rfl
              · cases hev
            · cases hev
          intro hh
          rcases this with rfl | ⟨c, rfl⟩ | ⟨c, rfl⟩
          · rfl
          · simp only [Ef.ap]; rw [if_neg nd]
          · simp only [Ef.ap]; rw [if_neg nd, if_neg nk]
      · cases ht
    · rename_i ty z b k y d e1 e2
      split at ht
      · rename_i hk
        cases ht
        rw [e1] at hev
        simp only [ev] at hev
        split at hev
        · cases hev
        · rename_i ys _
          simp only [opd] at hev
          have hs2 := (slot k hk).2
          have nk : n ≠ k := by intro q; exact hn (by rw [q]; simp)
          rcases evCls_spec hev with ⟨es, -, -, rfl⟩ | ⟨m, es, -, -, rfl, k', hx⟩ | ⟨-, rfl⟩
          · exact fun _ => rfl
          · have := hs2 _ _ _ _ hx
            subst this
            intro hh
            simp only [Ef.ap]; rw [if_neg nk]
          · exact fun _ => rfl
      · cases ht
    · rename_i ty z b x y d e1 e2
      cases ht
      rw [e1] at hev
      simp only [ev] at hev
      split at hev
      · cases hev
      · rename_i ys _
        simp only [opd] at hev
        rw [e2] at hev ⊢
        simp only [Option.getD_some] at hev ⊢
        have nd : n ≠ d := by intro q; exact hn (by rw [q]; simp)
        have : e = .non ∨ ∃ c, e = .add c := by
          unfold evApp at hev
          split at hev
          · split at hev
            · cases hev; exact .inl rfl
            · split at hev
              · cases hev; exact .inr ⟨_, rfl⟩
              · cases hev
          · rename_i hg; cases hg
          · split at hev
            · cases hev; exact .inl rfl
            · cases hev
          · cases hev
        intro hh
        rcases this with rfl | ⟨c, rfl⟩
        · rfl
        · simp only [Ef.ap]; rw [if_neg nd]
    · cases ht
  rcases hs with ⟨-, ⟨f, args, r, hc, rfl, -⟩ | ⟨f, args, ts, d, ob, hc, -⟩ | ⟨f, args, args0, d, m, ob0, ob1, v0, hc, -⟩ | ⟨hc, hev, -⟩⟩ | ⟨g, want, -, -, -, rfl⟩
  · exact fun _ => rfl
  · exfalso
    unfold tch at ht
    split at ht <;> first | (rename_i q; rw [q] at hc; cases hc; done) | (rename_i q _; rw [q] at hc; cases hc; done) | (rename_i q1 q2; rw [q1] at hc; cases hc; done) | cases ht
  · exfalso
    unfold tch at ht
    split at ht <;> first | (rename_i q; rw [q] at hc; cases hc; done) | (rename_i q _; rw [q] at hc; cases hc; done) | (rename_i q1 q2; rw [q1] at hc; cases hc; done) | cases ht
  · exact main hc hev
  · exact fun _ => rfl

theorem DRun.gone {C : Ctr} {ops : List OpI} {st0 stn : St} {l : List (V × Ef)} (hD : Dist ops) (hrun : DRun C ops st0 l stn) (hcl : ∀ d ∈ news ops, look st0.hp d = none) {i m : Nat} (hi : look (stAt ops st0 l i).hp m ≠ none) (hi1 : look (stAt ops st0 l (i + 1)).hp m = none) :
    ∀ r : Nat, i + 1 + r ≤ ops.length → look (stAt ops st0 l (i + 1 + r)).hp m = none
  | 0, _ => hi1
  | r + 1, hr => by
    have ih := DRun.gone hD hrun hcl hi hi1 r (by omega)
    obtain ⟨hlen, -, hat⟩ := drun_at hrun
    have h3 := (hp_text hD hrun hcl i (by omega)).2.2
    have hk := List.getElem?_eq_getElem (l := ops) (i := i + 1 + r) (by omega)
    obtain ⟨v, e, h1, h2, h4⟩ := hat _ _ hk
    obtain ⟨k1, k2, k3, k4, k5⟩ := h2.kind
    have hne : ∀ d, ops[i + 1 + r].ins.makes = true → ops[i + 1 + r].dst = some d → m ≠ d := fun d hm hd q => by
      subst q; exact hi (h3 (i + 1 + r) _ m (by omega) hk hm hd)
    rw [show i + 1 + (r + 1) = i + 1 + r + 1 by omega, h4]
    simp only [nextSt]
    rw [Ef.look_hp']
    cases e with
    | non => exact ih
    | add c =>
      obtain ⟨hm, d, hd, -⟩ := k2 c rfl
      rw [hd]; simp only [Ef.ap, Option.getD_some]; rw [if_neg (hne d hm hd)]; exact ih
    | set m' c =>
      have := k4 m' c rfl
      simp only [Ef.ap]; rw [if_neg (fun q => by subst q; exact this ih)]; exact ih
    | mov m' c =>
      obtain ⟨⟨hm, d, hd, -⟩, -⟩ := k3 m' c rfl
      rw [hd]; simp only [Ef.ap, Option.getD_some]; rw [if_neg (hne d hm hd)]
      split
      · rfl
      · exact ih
    | del m' =>
      simp only [Ef.ap]
      split
      · rfl
      · exact ih

theorem late_ap {C : Ctr} {ops : List OpI} {st0 stn : St} {l : List (V × Ef)} (hD : Dist ops) (hrun : DRun C ops st0 l stn) (hcl : ∀ d ∈ news ops, look st0.hp d = none) {i j : Nat} (hij : i < j) (hj : j ≤ ops.length) {o : OpI} {v : V} {e : Ef} (ho : ops[i]? = some o) (hl : l[i]? = some (v, e))
    {ty z b d : Nat} {x y : O} (hins : o.ins = .app ty z b x y) (hd : o.dst = some d) {n : Nat} (hn : n ≠ d) {c : Ob} (hc : look (stAt ops st0 l j).hp n = some c) : ∀ hh : Lk, e.ap (o.dst.getD 0) hh n = hh n := by
  obtain ⟨hlen, -, hat⟩ := drun_at hrun
  obtain ⟨v', e', h1, h2, h4⟩ := hat i o ho
  rw [hl] at h1; cases h1
  obtain ⟨k1, k2, k3, k4, k5⟩ := h2.kind
  have away : ∀ m, look (stAt ops st0 l i).hp m ≠ none → look (stAt ops st0 l (i + 1)).hp m = none → n ≠ m := fun m a b' q => by
    subst q
    have := DRun.gone hD hrun hcl a b' (j - (i + 1)) (by omega)
    rw [show i + 1 + (j - (i + 1)) = j by omega] at this
    rw [this] at hc; cases hc
  have noset : ∀ m c, e ≠ .set m c := by
    rcases h2 with ⟨-, ⟨f, args, r, hc, -⟩ | ⟨f, args, ts, d', ob, hc, -⟩ | ⟨f, args, args0, d', m, ob0, ob1, v0, hc, -⟩ | ⟨-, hev, -⟩⟩ | ⟨g, want, -, -, -, hq⟩
    · rw [hins] at hc; cases hc
    · rw [hins] at hc; cases hc
    · rw [hins] at hc; cases hc
    · rw [hins] at hev
      simp only [ev] at hev
      split at hev
      · cases hev
      · unfold evApp at hev
        repeat' (split at hev)
        all_goals first | (cases hev; done) | (cases hev; intro m c q; cases q)
    · subst hq; intro m c q; cases q
  rw [hd]
  intro hh
  cases e with
  | non => rfl
  | add c => simp only [Ef.ap, Option.getD_some]; rw [if_neg hn]
  | set m c => exact (noset m c rfl).elim
  | mov m c =>
    obtain ⟨⟨hm, d', hd', hfr⟩, hm2⟩ := k3 m c rfl
    rw [hd] at hd'; cases hd'
    have hmd : m ≠ d := fun q => by subst q; exact hm2 hfr
    have := away m hm2 (by rw [h4]; simp only [nextSt]; rw [Ef.look_hp', hd]; simp only [Ef.ap, Option.getD_some]; rw [if_neg hmd]; simp)
    simp only [Ef.ap, Option.getD_some]; rw [if_neg hn, if_neg this]
  | del m =>
    have hm2 := k5 m rfl
    have := away m hm2 (by rw [h4]; simp only [nextSt]; rw [Ef.look_hp', hd]; simp [Ef.ap])
    simp only [Ef.ap]; rw [if_neg this]

theorem draw_any (hol : ops.length = rops.toList.length) (hget : ∀ (j : Nat) (oi : OpI), ops[j]? = some oi → ∃ o oi0, rops.toList[j]? = some o ∧ trOper P rops true o = some oi0 ∧ oi.dst = oi0.dst ∧ oi.gd = oi0.gd ∧ oi.aft = oi0.aft ∧ InsLe oi0.ins oi.ins) (hb : ops.all (bndO N) = true) (ok : OkD ops) (hrun : DRun (Has P) ops st0 l stn) (hcl : ∀ d ∈ news ops, look st0.hp d = none)
    (hQ : ∀ a w s I, StX w0 I0 N stn.tm (look stn.hp) s I a w → Q .normal a w) : ∀ (fuel : Nat) (listed : Array Bool) (s : Nat → Option Loc) (I : Nat → Prop) (a : Act) (w : World), listed.size = ops.length → listed.toList.count false ≤ fuel →
    (∀ j, done listed j = true → ∀ i ∈ aftOf ops j, done listed i = true) → StX w0 I0 N (tmK (done listed) 0 ops l st0.tm) (xK (done listed) 0 ops l (preK ops l (look st0.hp))) s I a w →
    (∀ (q : Nat) (o : OpI) (d : Nat), ops[q]? = some o → done listed q = false → o.ins.makes = true → o.dst = some d → s d = none) →
    (∀ (q : Nat) (o : OpI) (v : V) (c : Ob) (d : Nat), ops[q]? = some o → l[q]? = some (v, .add c) → done listed q = false → o.dst = some d → xK (done listed) 0 ops l (preK ops l (look st0.hp)) d = some c) → wpAny P .any rops Q fuel listed a w := by
  have hD : Dist ops := ok.dst
  obtain ⟨hlen, hend, hat⟩ := drun_at hrun
  have holn : ops.length = rops.size := by simpa using hol
  have tmt := tm_text hD hrun
  have hpt := hp_text hD hrun hcl
  have real : ∀ (j : Nat) (oi : OpI), ops[j]? = some oi → ∃ o oi0, rops[j]? = some o ∧ trOper P rops true o = some oi0 ∧ oi.dst = oi0.dst ∧ oi.gd = oi0.gd ∧ oi.aft = oi0.aft ∧ InsLe oi0.ins oi.ins := fun j oi hj => by
    obtain ⟨o, oi0, h1, h2⟩ := hget j oi hj; exact ⟨o, oi0, by simpa using h1, h2⟩
  have aftEq : ∀ (j : Nat) (o : Oper) (oi : OpI), trOper P rops true o = some oi → ∀ i, i ∈ oi.aft ↔ ∃ e ∈ o.after, Region.binds .any e = true ∧ e.on = i := by
    intro j o oi h i
    have : oi.aft = (o.after.toList.filter (Region.binds .any)).map (·.on) := by
      unfold trOper at h
      split at h
      · cases h
      · split at h
        · cases h; rfl
        · split at h
          · cases h; rfl
          · cases h
    rw [this]
    simp [and_assoc]
  -- all is done where nothing is ready
  have allDone : ∀ (listed : Array Bool), listed.size = ops.length → Region.ready .any rops listed = [] → ∀ j, j < ops.length → done listed j = true := by
    intro listed hsz hr j
    induction j using Nat.strongRecOn with
    | _ j ih =>
      intro hj
      cases hd : done listed j with
      | true => rfl
      | false =>
        exfalso
        obtain ⟨o, oi0, ho, hto, -, -, haft0, -⟩ := real j _ (List.getElem?_eq_getElem hj)
        have : j ∈ Region.ready .any rops listed := by
          rw [mem_ready]
          refine ⟨?_, o, ho, fun e he hbd => ?_⟩
          · have : listed.getD j false = false := hd
            have hlt : j < listed.size := by omega
            simp [Array.getD_eq_getD_getElem?, hlt] at this ⊢
            exact this
          · have hin : e.on ∈ ops[j].aft := by rw [haft0]; exact (aftEq j o _ hto e.on).2 ⟨e, he, hbd, rfl⟩
            have hlt := ok.lt j _ (List.getElem?_eq_getElem hj) _ hin
            exact ih _ hlt (by omega)
        rw [hr] at this; cases this
  have finish : ∀ (listed : Array Bool) (s : Nat → Option Loc) (I : Nat → Prop) (a : Act) (w : World), (∀ j, j < ops.length → done listed j = true) → StX w0 I0 N (tmK (done listed) 0 ops l st0.tm) (xK (done listed) 0 ops l (preK ops l (look st0.hp))) s I a w → Q .normal a w := by
    intro listed s I a w hall x
    have hS : ∀ i (o : OpI), ops[i]? = some o → done listed (0 + i) = below ops.length (0 + i) := fun i o hi => by
      have hlt := (List.getElem?_eq_some_iff.1 hi).1
      rw [Nat.zero_add, hall i hlt, below_iff.2 hlt]
    have htm : ∀ t, look stn.tm t = look (tmK (done listed) 0 ops l st0.tm) t := by
      intro t
      rw [← hend, tmt ops.length (Nat.le_refl _) t]
      by_cases hex : ∃ (i : Nat) (o' : OpI), ops[i]? = some o' ∧ o'.dst = some t
      · obtain ⟨i, o', hi, hdi⟩ := hex
        obtain ⟨v, e, hli, -⟩ := hat i o' hi
        have hlt := (List.getElem?_eq_some_iff.1 hi).1
        rw [tmK_in _ 0 ops l _ i o' v e t hD hi hli (by rw [Nat.zero_add]; exact below_iff.2 hlt) hdi, tmK_in _ 0 ops l _ i o' v e t hD hi hli (by rw [Nat.zero_add]; exact hall i hlt) hdi]
      · rw [tmK_out _ t 0 ops l _ (fun i o' hi _ hd => hex ⟨i, o', hi, hd⟩), tmK_out _ t 0 ops l _ (fun i o' hi _ hd => hex ⟨i, o', hi, hd⟩)]
    have hx := (hpt ops.length (Nat.le_refl _)).1
    rw [hend, ← xK_congr (done listed) (below ops.length) 0 ops l _ (fun i o hi _ => hS i o hi)] at hx
    have hne : ∀ n, look stn.hp n ≠ none → xK (done listed) 0 ops l (preK ops l (look st0.hp)) n ≠ none := fun n hn q => by
      obtain ⟨o, ho⟩ := Option.ne_none_iff_exists'.1 hn
      rw [hx n o ho] at q; cases q
    exact hQ a w s I ⟨x.size, x.defers, fun t v hv => x.tm t v (by rw [← htm]; exact hv), ⟨fun n o L hn hL => x.rep.own n o L (hx n o hn) hL, fun n m L M hn hm => x.rep.inj n m L M (hne n hn) (hne m hm), x.rep.old⟩, x.below, fun n L hn => x.own n L (hne n hn), x.inc, x.new, x.outer⟩
  intro fuel
  induction fuel with
  | zero =>
    intro listed s I a w hsz hcnt hclosed x hfr hadd
    have hall : ∀ j, j < ops.length → done listed j = true := by
      intro j hj
      cases hd : done listed j with
      | true => rfl
      | false =>
        exfalso
        have hlt : j < listed.size := by omega
        have : false ∈ listed.toList := by
          have : listed.getD j false = false := hd
          simp [Array.getD_eq_getD_getElem?, hlt] at this
          rw [← this]; simp
        have := List.count_pos_iff.2 this
        omega
    refine ⟨?_, finish listed s I a w hall x⟩
    rw [List.eq_nil_iff_forall_not_mem]
    intro j hj
    obtain ⟨h0, o, ho, -⟩ := mem_ready.1 hj
    have hlt : j < ops.length := by rw [holn]; exact (Array.getElem?_eq_some_iff.1 ho).1
    have h1 := hall j hlt
    have hlt2 : j < listed.size := by omega
    simp [done, Array.getD_eq_getD_getElem?, hlt2] at h0 h1
    rw [h0] at h1; cases h1
  | succ fuel ih =>
    intro listed s I a w hsz hcnt hclosed x hfr hadd
    refine ⟨fun hr => finish listed s I a w (allDone listed hsz hr) x, fun j hj => ?_⟩
    obtain ⟨h0, o, ho, hafter⟩ := mem_ready.1 hj
    have hjr : j < rops.size := (Array.getElem?_eq_some_iff.1 ho).1
    have hjl : j < ops.length := by omega
    have hjs : j < listed.size := by omega
    obtain ⟨oi, hoi⟩ : ∃ oi, ops[j]? = some oi := ⟨_, List.getElem?_eq_getElem hjl⟩
    obtain ⟨o', oi0, ho', hto, hdst0, hgd0, haft0, hcal0, hev0⟩ := real j oi hoi
    rw [ho] at ho'; cases ho'
    have hdj : done listed j = false := by
      simp [done, Array.getD_eq_getD_getElem?, hjs] at h0 ⊢; exact h0
    have haft : ∀ i ∈ oi.aft, done listed i = true := fun i hi => by
      obtain ⟨e, he, hbd, rfl⟩ := (aftEq j o oi0 hto i).1 (by rw [← haft0]; exact hi)
      exact hafter e he hbd
    have haftOf : aftOf ops j = oi.aft := by simp [aftOf, hoi]
    -- the closure
    have reachS : ∀ i, Reach (aftOf ops) i j → done listed i = true := by
      intro i r
      cases r with
      | one h => exact haft i (by rw [← haftOf]; exact h)
      | more h r => exact r.closed (S := fun k => done listed k = true) hclosed (haft _ (by rw [← haftOf]; exact h))
    have notS : ∀ i, Reach (aftOf ops) j i → done listed i = false := by
      intro i r
      cases hi : done listed i with
      | false => rfl
      | true => have := r.closed (S := fun k => done listed k = true) hclosed hi; rw [hdj] at this; cases this
    obtain ⟨v, e, hlj, hstep, -⟩ := hat j oi hoi
    obtain ⟨hop, hdst, hgd⟩ := trOper_spec hto
    rw [← hdst0] at hdst
    rw [← hgd0] at hgd
    have hbd : ∀ n, oi.dst = some n → n < N := bnd_dst (List.all_eq_true.1 hb oi (List.mem_of_getElem? hoi))
    -- slots that it looks at
    have hgetEq : ∀ t ∈ oi.looksAt, get (stAt ops st0 l j).tm t = get (tmK (done listed) 0 ops l st0.tm) t := by
      intro t ht
      unfold get
      rw [tmt j (by omega) t]
      by_cases hex : ∃ (i : Nat) (o' : OpI), ops[i]? = some o' ∧ o'.dst = some t
      · obtain ⟨i, o', hi, hdi⟩ := hex
        obtain ⟨v', e', hli, -⟩ := hat i o' hi
        by_cases hij : i = j
        · subst hij
          have out : ∀ (S : Nat → Bool), S i = false → look (tmK S 0 ops l st0.tm) t = look st0.tm t := fun S hS => tmK_out S t 0 ops l _ (fun k o2 hk hSk hd => by
            have := hD k i o2 o' t hk hi hd hdi; subst this; rw [Nat.zero_add, hS] at hSk; cases hSk)
          rw [out _ (below_no (by omega)), out _ hdj]
        · rcases ok.slot i j oi o' t hoi hi hij hdi ht with ⟨hlt, hr⟩ | ⟨hlt, hr⟩
          · rw [tmK_in _ 0 ops l _ i o' v' e' t hD hi hli (by rw [Nat.zero_add]; exact below_iff.2 hlt) hdi, tmK_in _ 0 ops l _ i o' v' e' t hD hi hli (by rw [Nat.zero_add]; exact reachS i hr) hdi]
          · have out : ∀ (S : Nat → Bool), S i = false → look (tmK S 0 ops l st0.tm) t = look st0.tm t := fun S hS => tmK_out S t 0 ops l _ (fun k o2 hk hSk hd => by
              have := hD k i o2 o' t hk hi hd hdi; subst this; rw [Nat.zero_add, hS] at hSk; cases hSk)
            rw [out _ (below_no (by omega)), out _ (notS i hr)]
      · rw [tmK_out _ t 0 ops l _ (fun i o' hi _ hd => hex ⟨i, o', hi, hd⟩), tmK_out _ t 0 ops l _ (fun i o' hi _ hd => hex ⟨i, o', hi, hd⟩)]
    have hslots : ∀ t ∈ oi.ins.slots, get (stAt ops st0 l j).tm t = get (tmK (done listed) 0 ops l st0.tm) t := fun t ht => hgetEq t (by unfold OpI.looksAt; exact List.mem_append_left _ ht)
    -- memory that it looks at
    have hmem : oi.ins.isW = true ∨ (oi.ins.looks = true ∧ ∀ F g m x, oi.ins ≠ .ldf F g m x) → Sub (look (stAt ops st0 l j).hp) (xK (done listed) 0 ops l (preK ops l (look st0.hp))) := by
      intro hk
      have hx := (hpt j (by omega)).1
      have : xK (done listed) 0 ops l (preK ops l (look st0.hp)) = xK (below j) 0 ops l (preK ops l (look st0.hp)) := by
        refine xK_congr _ _ 0 ops l _ (fun i o2 hi hwi => ?_)
        rw [Nat.zero_add]
        by_cases hij : i = j
        · subst hij; rw [hdj, below_no (by omega)]
        · rcases hk with hw | ⟨hlk, hnf⟩
          · by_cases hlt : i < j
            · rw [below_iff.2 hlt, reachS i (ok.ww i j oi o2 hoi hi hlt hw hwi)]
            · rw [below_no hlt, notS i (ok.ww j i o2 oi hi hoi (by omega) hwi hw)]
          · have hr := (ok.lw j i o2 oi hi hoi (Ne.symm hij) hwi hlk).resolve_right (by rintro ⟨F, g, m, x, L, q, -⟩; exact hnf F g m x q)
            rw [notS i hr, below_no]
            have := reach_lt ok hr
            omega
      rw [this]; exact hx
    have hmemF : ∀ F g m x, oi.ins = .ldf F g m x → ∀ n c, F.contains n = false → look (stAt ops st0 l j).hp n = some c → xK (done listed) 0 ops l (preK ops l (look st0.hp)) n = some c := by
      intro F g m x hF n c hn hc
      have hx := (hpt j (by omega)).1 n c hc
      rw [← hx]
      refine xK_at _ _ n 0 ops l _ _ (fun i o2 v2 e2 hi hli hwi => ?_) rfl
      rw [Nat.zero_add]
      by_cases hij : i = j
      · subst hij; left; rw [hdj, below_no (by omega)]
      · rcases ok.lw j i o2 oi hi hoi (Ne.symm hij) hwi (by rw [hF]; rfl) with hr | ⟨F', g', m', x', L, q, ht, hL⟩
        · left
          rw [notS i hr, below_no]
          have := reach_lt ok hr
          omega
        · right
          rw [hF] at q; cases q
          have hnL : n ∉ L := fun hm => by
            have := hL n hm
            rw [List.contains_eq_mem] at hn
            simp [this] at hn
          unfold tch2 at ht
          split at ht
          · rename_i L' ht'
            cases ht
            exact tch_ap hD hrun hi hli ht' hnL
          · split at ht
            · rename_i hb hins hdst2
              cases ht
              exact late_ap hD hrun hcl (Nat.le_of_ble_eq_true hb) (by omega) hi hli hins hdst2 (by simpa using hnL) hc
            · cases ht
    -- the next state
    have hset : done (listed.setIfInBounds j true) = plus (done listed) j := by
      funext i
      by_cases e : i = j
      · subst e; rw [plus_self]; simp [done, Array.getD_eq_getD_getElem?, hjs]
      · rw [plus_ne _ e]; simp [done, Array.getD_eq_getD_getElem?, Array.getElem?_setIfInBounds, Ne.symm e]
    have hcnt' : (listed.setIfInBounds j true).toList.count false ≤ fuel := by
      rw [Array.toList_setIfInBounds, List.count_set (by simpa using hjs)]
      have hv : listed.toList[j] = false := by
        have h0' := h0
        simp [Array.getD_eq_getD_getElem?, hjs] at h0'
        simpa using h0'
      have hpos : 0 < listed.toList.count false := List.count_pos_iff.2 (by rw [← hv]; exact List.getElem_mem _)
      rw [hv]
      show listed.toList.count false - 1 + 0 ≤ fuel
      omega
    have hclosed' : ∀ k, done (listed.setIfInBounds j true) k = true → ∀ i ∈ aftOf ops k, done (listed.setIfInBounds j true) i = true := by
      rw [hset]
      intro k hk i hi
      by_cases e : k = j
      · subst e
        have hi' : i ≠ k := by
          intro q; subst q
          rw [haftOf] at hi
          have := ok.lt i oi hoi i hi; omega
        rw [plus_ne _ hi']; exact haft i (by rw [← haftOf]; exact hi)
      · rw [plus_ne _ e] at hk
        have := hclosed k hk i hi
        simp [plus, this]
    have next : ∀ (s' : Nat → Option Loc) (I' : Nat → Prop) (a' : Act) (w' : World), StX w0 I0 N (put (tmK (done listed) 0 ops l st0.tm) oi.dst v) (if oi.ins.isW then e.ap (oi.dst.getD 0) (xK (done listed) 0 ops l (preK ops l (look st0.hp))) else xK (done listed) 0 ops l (preK ops l (look st0.hp))) s' I' a' w' →
        (∀ n, (∀ d, oi.dst = some d → oi.ins.makes = true → n ≠ d) → s' n = s n) → (∀ m c, (e = .set m c ∨ e = .mov m c ∨ e = .del m) → ∃ L, s m = some L) → wpAny P .any rops Q fuel (listed.setIfInBounds j true) a' w' := by
      intro s' I' a' w' x' hs' hsm
      have hxx : xK (plus (done listed) j) 0 ops l (preK ops l (look st0.hp)) = (if oi.ins.isW then e.ap (oi.dst.getD 0) (xK (done listed) 0 ops l (preK ops l (look st0.hp))) else xK (done listed) 0 ops l (preK ops l (look st0.hp))) := by
          cases hw : oi.ins.isW with
          | false =>
            simp only [Bool.false_eq_true, if_false]
            refine xK_congr _ _ 0 ops l _ (fun i o2 hi hwi => ?_)
            rw [Nat.zero_add]
            by_cases q : i = j
            · subst q; rw [hoi] at hi; cases hi; rw [hw] at hwi; cases hwi
            · exact plus_ne _ q
          | true =>
            simp only [if_true]
            exact xK_last (done listed) (plus (done listed) j) j 0 ops l _ oi v e hoi hlj hw (by rw [Nat.zero_add]; exact hdj) (by rw [Nat.zero_add]; exact plus_self _ _) (fun i hi => by rw [Nat.zero_add]; exact plus_ne _ hi)
              (fun i o2 hi hlt hwi => by rw [Nat.zero_add]; exact notS i (ok.ww j i o2 oi hi hoi hlt hwi hw))
      refine ih (listed.setIfInBounds j true) s' I' a' w' (by simpa using hsz) hcnt' hclosed' ?_ ?_ ?_
      · rw [hset, hxx]
        exact x'.tm' (fun t => by rw [tmK_plus hD hlen hoi hlj hdj, look_put])
      · rw [hset]
        intro q o2 d hq hdq hmk hd2
        have hqj : q ≠ j := by intro e; subst e; rw [plus_self] at hdq; cases hdq
        rw [plus_ne _ hqj] at hdq
        rw [hs' d (fun d' hd' _ e => by subst e; exact hqj (hD q j o2 oi d hq hoi hd2 hd'))]
        exact hfr q o2 d hq hdq hmk hd2
      · rw [hset, hxx]
        intro q o2 v2 c d hq hlq hdq hd2
        have hqj : q ≠ j := by intro e; subst e; rw [plus_self] at hdq; cases hdq
        rw [plus_ne _ hqj] at hdq
        have old := hadd q o2 v2 c d hq hlq hdq hd2
        have hmk : o2.ins.makes = true := by
          obtain ⟨v', e', q1, q2, -⟩ := hat q o2 hq
          rw [hlq] at q1; cases q1
          exact (q2.kind.2.1 c rfl).1
        have hsd := hfr q o2 d hq hdq hmk hd2
        split
        · have hne : d ≠ oi.dst.getD 0 ∨ e = .non ∨ (∃ m c', e = .set m c') ∨ ∃ m, e = .del m := by
            cases e with
            | del m => exact .inr (.inr (.inr ⟨m, rfl⟩))
            | non => exact .inr (.inl rfl)
            | set m c' => exact .inr (.inr (.inl ⟨m, c', rfl⟩))
            | add c' =>
              left
              obtain ⟨v', e', q1, q2, -⟩ := hat j oi hoi
              rw [hlj] at q1; cases q1
              obtain ⟨-, d', hd', -⟩ := q2.kind.2.1 c' rfl
              rw [hd']; intro e; simp at e; subst e; exact hqj (hD q j o2 oi d hq hoi hd2 hd')
            | mov m c' =>
              left
              obtain ⟨v', e', q1, q2, -⟩ := hat j oi hoi
              rw [hlj] at q1; cases q1
              obtain ⟨⟨-, d', hd', -⟩, -⟩ := q2.kind.2.2.1 m c' rfl
              rw [hd']; intro e; simp at e; subst e; exact hqj (hD q j o2 oi d hq hoi hd2 hd')
          cases e with
          | del m =>
            obtain ⟨L, hL⟩ := hsm m (.box []) (.inr (.inr rfl))
            simp only [Ef.ap]
            rw [if_neg (fun e => by subst e; rw [hsd] at hL; cases hL)]; exact old
          | non => exact old
          | set m c' =>
            obtain ⟨L, hL⟩ := hsm m c' (.inl rfl)
            simp only [Ef.ap]
            rw [if_neg (fun e => by subst e; rw [hsd] at hL; cases hL)]; exact old
          | add c' =>
            rcases hne with hne | hne | ⟨m, c2, hne⟩ | ⟨m, hne⟩
            · simp only [Ef.ap]; rw [if_neg hne]; exact old
            · cases hne
            · cases hne
            · cases hne
          | mov m c' =>
            obtain ⟨L, hL⟩ := hsm m c' (.inr (.inl rfl))
            rcases hne with hne | hne | ⟨m2, c2, hne⟩ | ⟨m2, hne⟩
            · simp only [Ef.ap]; rw [if_neg hne, if_neg (fun e => by subst e; rw [hsd] at hL; cases hL)]; exact old
            · cases hne
            · cases hne
            · cases hne
        · exact old
    have sameX : ∀ {hh : Lk}, e = .non → (if oi.ins.isW then e.ap (oi.dst.getD 0) hh else hh) = hh := by
      rintro hh rfl; split <;> rfl
    have hguard : ∀ g want, oi.gd = some (g, want) → ∃ k, o.guard = some (k, want) ∧ (rops[k]?).bind (·.dst) = some g := by
      intro g want hg
      rcases hgd with ⟨-, q⟩ | ⟨k, w2, g2, q1, q2, q3⟩
      · rw [q] at hg; cases hg
      · rw [q3] at hg; cases hg; exact ⟨k, q1, q2⟩
    have hgslot : ∀ g want, oi.gd = some (g, want) → get (stAt ops st0 l j).tm g = get (tmK (done listed) 0 ops l st0.tm) g := fun g want hg => hgetEq g (by unfold OpI.looksAt; rw [hg]; exact List.mem_append_right _ (by simp [gSlots]))
    unfold wpOp
    rw [ho]
    simp only
    rcases hstep with ⟨hg, hdo⟩ | ⟨g, want, hg, hgv, rfl, rfl⟩
    · have hwant : Region.wanted o (yielded rops a.tmps) = true := by
        cases hgd' : oi.gd with
        | none =>
          rcases hgd with ⟨q1, -⟩ | ⟨k, w2, g2, -, -, q3⟩
          · simp [Region.wanted, q1]
          · rw [hgd'] at q3; cases q3
        | some gw =>
          obtain ⟨g, want⟩ := gw
          rw [hgd'] at hg
          simp only at hg
          obtain ⟨k, q1, q2⟩ := hguard g want hgd'
          have := (guard_rel (w0 := w0) (I0 := I0) (N := N) q1 q2 x.str).1 want (by rw [← hgslot g want hgd']; exact hg)
          rw [this]; simp
      rw [if_pos hwant]
      left
      rcases hdo with ⟨f, args, r, hcal, rfl, rfl, hW⟩ | ⟨f, args, ts, d, ob, hcal, hts, hdd, rfl, hE, hfresh⟩ | ⟨f, args, args0, d, m, ob0, ob1, v0, hcal, hwW, hdd, rfl, rfl, hE, hren, hnm0, hlm, hfresh⟩ | ⟨hcal, hev, hfresh⟩
      · rw [callee_congr hslots] at hcal
        obtain ⟨us, r1, r2, r3⟩ := callee_tr (w := w) hop (by rw [← hcal0]; exact hcal) (hop_of x.tm)
        have hlk : oi.ins.isW = true ∨ oi.ins.looks = true := by
          cases hi : oi.ins <;> rw [hi] at hcal <;> simp [callee] at hcal <;> first | exact .inl rfl | exact .inr rfl
        have hnf : ∀ F g m x, oi.ins ≠ .ldf F g m x := fun F g m x q => by rw [q] at hcal; cases hcal
        have hW' : callW (Pure P) f args (xK (done listed) 0 ops l (preK ops l (look st0.hp))) (fun r' => r' = r) := by
          unfold callW at hW ⊢
          split at hW
          · exact hW.elim
          · rename_i ts hts
            rw [(clo_sub (hmem (hlk.elim .inl fun q => .inr ⟨q, hnf⟩)) 40).2 args ts hts]; exact hW
        refine call_core x hdst hbd r1 hW' r2 r3 (fun u w' I' x' => next s I' _ w' ?_ (fun n _ => rfl) (fun m c q => by rcases q with q | q | q <;> cases q))
        rw [sameX rfl]; exact x'
      · have hmk : oi.ins.makes = true := by
          cases hi : oi.ins <;> rw [hi] at hcal <;> simp [callee] at hcal <;> rfl
        rw [callee_congr hslots] at hcal
        obtain ⟨us, r1, r2, r3⟩ := callee_tr (w := w) hop (by rw [← hcal0]; exact hcal) (hop_of x.tm)
        have hdf : d < far := bnd_far (List.all_eq_true.1 hb oi (List.mem_of_getElem? hoi)) d hdd
        have hsd : s d = none := hfr j oi d hoi hdj hmk hdd
        rw [← hdst] at hdd
        refine maker_core x hdd (fun n hn => hbd n (by rw [← hdst]; exact hn)) r1 hts hE r2 r3 hsd hdf (fun u s' w' I' x' hs' => ?_)
        rw [hdst] at x' ⊢
        refine next s' I' _ w' ?_ (fun n hn => hs' n (hn d (by rw [← hdst]; exact hdd) hmk)) (fun m c q => by rcases q with q | q | q <;> cases q)
        have hgd : oi.dst.getD 0 = d := by rw [← hdst, hdd]; rfl
        rw [hgd]
        cases hwc : oi.ins.isW with
        | true => exact x'
        | false =>
          simp only [Bool.false_eq_true, if_false]
          have hpre : xK (done listed) 0 ops l (preK ops l (look st0.hp)) d = some ob := hadd j oi v ob d hoi hlj hdj (by rw [← hdst]; exact hdd)
          have : (Ef.add ob).ap d (xK (done listed) 0 ops l (preK ops l (look st0.hp))) = xK (done listed) 0 ops l (preK ops l (look st0.hp)) := by
            funext n
            simp only [Ef.ap]
            split
            · rename_i q; rw [q, hpre]
            · rfl
          rw [this] at x'; exact x'
      · have hmk : oi.ins.makes = true := by
          cases hi : oi.ins <;> rw [hi] at hcal <;> simp [callee] at hcal <;> rfl
        rw [callee_congr hslots] at hcal
        obtain ⟨us, r1, r2, r3⟩ := callee_tr (w := w) hop (by rw [← hcal0]; exact hcal) (hop_of x.tm)
        have hdf : d < far := bnd_far (List.all_eq_true.1 hb oi (List.mem_of_getElem? hoi)) d hdd
        have hsd : s d = none := hfr j oi d hoi hdj hmk hdd
        have hlm' := hmem (.inl hwW) m _ hlm
        have hsm : ∃ L, s m = some L := by
          have key : ∀ as : List V, nmFar as = true → ∃ (i : Nat) (y : V), as[i]? = some y ∧ ((∃ z a b, y = .slc far z a b) ∨ ∃ a b, y = .ptr far a b) := by
            intro as
            induction as with
            | nil => intro h; cases h
            | cons y r ih =>
              intro h
              have tail : nmFar r = true → ∃ (i : Nat) (y' : V), (y :: r)[i]? = some y' ∧ ((∃ z a b, y' = .slc far z a b) ∨ ∃ a b, y' = .ptr far a b) := fun h => let ⟨i, y', a, b⟩ := ih h; ⟨i + 1, y', by simpa using a, b⟩
              cases y with
              | slc n z a b =>
                simp only [nmFar, Bool.or_eq_true] at h
                rcases h with h | h
                · exact ⟨0, _, rfl, .inl ⟨z, a, b, by rw [Nat.eq_of_beq_eq_true h]⟩⟩
                · exact tail h
              | ptr n a b =>
                simp only [nmFar, Bool.or_eq_true] at h
                rcases h with h | h
                · exact ⟨0, _, rfl, .inr ⟨a, b, by rw [Nat.eq_of_beq_eq_true h]⟩⟩
                · exact tail h
              | und => exact tail h
              | t _ => exact tail h
              | fnv _ _ => exact tail h
              | agg _ => exact tail h
              | tup _ => exact tail h
          obtain ⟨i, y, hy, hyy⟩ := key args0 hnm0
          obtain ⟨u, -, hu⟩ := r3 i (y.ren (qf m)) (by rw [hren, renL_get, hy]; rfl)
          rcases hyy with ⟨z, a, b, rfl⟩ | ⟨a, b, rfl⟩
          · simp only [V.ren, qf_far] at hu
            cases hu with
            | slc _ _ _ L o cap hL _ _ _ _ _ => exact ⟨L, hL⟩
          · simp only [V.ren, qf_far] at hu
            cases hu with
            | ptr _ _ _ L hL => exact ⟨L, hL⟩
        refine mov_core x (fun n hn => hbd n (by rw [← hdst]; exact hn)) r1 hE hren hlm' r2 r3 hsd hdf (fun u s' w' I' x' hs' => ?_) hsm
        rw [hdst] at x' ⊢
        refine next s' I' _ w' ?_ (fun n hn => hs' n (hn d hdd hmk)) (fun m' c q => by rcases q with q | q | q <;> cases q; exact hsm)
        have hgd : oi.dst.getD 0 = d := by rw [hdd]; rfl
        rw [hgd, hwW]
        exact x'
      · rw [callee_congr hslots] at hcal
        have hev' : ev oi.ins (oi.dst.getD 0) (tmK (done listed) 0 ops l st0.tm) (xK (done listed) 0 ops l (preK ops l (look st0.hp))) = some (v, e) := by
          rw [← ev_congr hslots]
          cases hw : oi.ins.isW with
          | true => exact ev_sub (hmem (.inl hw)) hev
          | false =>
            cases hlk : oi.ins.looks with
            | true =>
              by_cases hnf : ∀ F g m x, oi.ins ≠ .ldf F g m x
              · exact ev_sub (hmem (.inr ⟨hlk, hnf⟩)) hev
              · simp only [Classical.not_forall, Classical.not_not] at hnf
                obtain ⟨F, g, m, x, hF⟩ := hnf
                have hm := hmemF F g m x hF
                rw [hF] at hev ⊢
                simp only [ev, Option.map_eq_some_iff] at hev ⊢
                obtain ⟨v', hv, hq⟩ := hev
                exact ⟨v', evLd_sub (lessH_sub F fun m o h1 h2 => hm m o h1 h2) hv, hq⟩
            | false => rw [ev_free (h' := look (stAt ops st0 l j).hp) hw hlk]; exact hev
        have hkind : DStep (Has P) oi (stAt ops st0 l j) v e := .inl ⟨hg, .inr (.inr (.inr ⟨by rw [callee_congr hslots]; exact hcal, hev, hfresh⟩))⟩
        obtain ⟨k1, k2, k3, k4, -⟩ := hkind.kind
        have hd : (∀ c, e = .add c → s (oi.dst.getD 0) = none) ∧ (∀ m c, e = .mov m c → s (oi.dst.getD 0) = none) := by
          refine ⟨fun c q => ?_, fun m c q => ?_⟩
          · obtain ⟨hmk, d, hdd, -⟩ := k2 c q
            rw [hdd]; exact hfr j oi d hoi hdj hmk hdd
          · obtain ⟨⟨hmk, d, hdd, -⟩, -⟩ := k3 m c q
            rw [hdd]; exact hfr j oi d hoi hdj hmk hdd
        have hdf : oi.dst.getD 0 < far := by
          cases hq : oi.dst with
          | none => show 0 < far; unfold far; omega
          | some d => exact bnd_far (List.all_eq_true.1 hb oi (List.mem_of_getElem? hoi)) d hq
        rcases hev0 with hev0 | ⟨aty, az, ab, ax, ay, ha0, ha1⟩
        case inr =>
          rw [ha1] at hev'
          simp only [ev] at hev'
          split at hev'
          · cases hev'
          · rename_i ys hys
            have hwA : oi.ins.isW = true := by rw [ha1]; rfl
            have sm : ∀ r0, evApp (oi.dst.getD 0) aty az ab (xK (done listed) 0 ops l (preK ops l (look st0.hp))) ys (opd (tmK (done listed) 0 ops l st0.tm) ax) = some r0 → _ := fun r0 hr0 =>
              sim (d := oi.dst.getD 0) (v := r0.1) (ef := r0.2) hop (by rw [ha0]; simp only [ev, hys]; exact hr0) (hop_of x.tm) x.rep
            have fin : ∀ (u : Value) (w' : World) (I' : Nat → Prop), StX w0 I0 N (put (tmK (done listed) 0 ops l st0.tm) oi.dst v) (e.ap (oi.dst.getD 0) (xK (done listed) 0 ops l (preK ops l (look st0.hp)))) s I' (a.put oi.dst u) w' → (∀ m, e = .del m → ∃ L, s m = some L) → (∀ m c, e ≠ .set m c ∧ e ≠ .mov m c) → wpAny P .any rops Q fuel (listed.setIfInBounds j true) (a.put oi.dst u) w' := fun u w' I' hx hd hn =>
              next s I' _ w' (by rw [hwA]; exact hx) (fun n _ => rfl) (fun m c q => by
                rcases q with q | q | q
                · exact ((hn m c).1 q).elim
                · exact ((hn m c).2 q).elim
                · exact hd m q)
            rcases evCls_spec hev' with ⟨es, h0, rfl, rfl⟩ | ⟨m, es, h0, rfl, rfl, -⟩ | ⟨h0, rfl⟩
            · obtain ⟨nx, u, s', w', hr, hnx, hf, hv⟩ := sm _ h0
              obtain ⟨I', hx⟩ := x.cls (dst := oi.dst) hf (.inl ⟨rfl, rfl⟩) hv hbd
              unfold Oper.wp
              rw [hr]
              rcases hnx with rfl | ⟨rfl, rfl⟩
              · rw [Oper.upon_value, hdst]; exact fin u w' I' hx (fun m q => by cases q) (fun m c => ⟨by simp, by simp⟩)
              · rw [Oper.upon_skip, hdst]; exact fin _ w' I' hx (fun m q => by cases q) (fun m c => ⟨by simp, by simp⟩)
            · obtain ⟨nx, u, s', w', hr, hnx, hf, hv⟩ := sm _ h0
              obtain ⟨I', hx⟩ := x.cls (dst := oi.dst) hf (.inr ⟨m, rfl, rfl⟩) hv hbd
              have hsm : ∃ L, s m = some L := by obtain ⟨L, L', -, hL, -⟩ := hf; exact ⟨L, hL⟩
              unfold Oper.wp
              rw [hr]
              rcases hnx with rfl | ⟨rfl, rfl⟩
              · rw [Oper.upon_value, hdst]; exact fin u w' I' hx (fun m' q => by cases q; exact hsm) (fun m c => ⟨by simp, by simp⟩)
              · rw [Oper.upon_skip, hdst]; exact fin _ w' I' hx (fun m' q => by cases q; exact hsm) (fun m c => ⟨by simp, by simp⟩)
            · obtain ⟨nx, u, s', w', hr, hnx, hf, hv⟩ := sm _ h0
              have x' := x.eff hf ⟨(fun c q => by cases q), (fun m c q => by cases q)⟩ hv hbd hdf
              obtain ⟨rfl, rfl⟩ := hf
              unfold Oper.wp
              rw [hr]
              rcases hnx with rfl | ⟨rfl, rfl⟩
              · rw [Oper.upon_value, hdst]; exact fin u _ I x' (fun m q => by cases q) (fun m c => ⟨by simp, by simp⟩)
              · rw [Oper.upon_skip, hdst]; exact fin _ _ I x' (fun m q => by cases q) (fun m c => ⟨by simp, by simp⟩)
        obtain ⟨nx, u, s', w', hr, hnx, hf, hv⟩ := sim hop (hev0 _ _ _ _ hev') (hop_of x.tm) x.rep
        have x' := x.eff hf hd hv hbd hdf
        have hnm := hf.names
        have hX : StX w0 I0 N (put (tmK (done listed) 0 ops l st0.tm) oi.dst v) (if oi.ins.isW then e.ap (oi.dst.getD 0) (xK (done listed) 0 ops l (preK ops l (look st0.hp))) else xK (done listed) 0 ops l (preK ops l (look st0.hp))) s' I (a.put oi.dst u) w' := by
          cases hw : oi.ins.isW with
          | true => exact x'
          | false =>
            simp only [Bool.false_eq_true, if_false]
            rcases k1 hw with rfl | ⟨c, rfl⟩
            · exact x'
            · obtain ⟨hmk, d, hdd, -⟩ := k2 c rfl
              have hpre : xK (done listed) 0 ops l (preK ops l (look st0.hp)) d = some c := hadd j oi v c d hoi hlj hdj hdd
              have : (Ef.add c).ap (oi.dst.getD 0) (xK (done listed) 0 ops l (preK ops l (look st0.hp))) = xK (done listed) 0 ops l (preK ops l (look st0.hp)) := by
                funext n
                rw [hdd]
                simp only [Ef.ap, Option.getD_some]
                split
                · rename_i q; rw [q, hpre]
                · rfl
              rw [this] at x'; exact x'
        have hkeep : ∀ n, (∀ d, oi.dst = some d → oi.ins.makes = true → n ≠ d) → s' n = s n := by
          intro n hn
          cases e with
          | del m => exact hf.elim
          | non => rw [hf.1]
          | set m c => obtain ⟨L, q, -⟩ := hf; rw [q]
          | add c =>
            obtain ⟨hmk, d, hdd, -⟩ := k2 c rfl
            exact hnm n (by rw [hdd]; exact hn d hdd hmk)
          | mov m c =>
            obtain ⟨⟨hmk, d, hdd, -⟩, -⟩ := k3 m c rfl
            exact hnm n (by rw [hdd]; exact hn d hdd hmk)
        have hsm : ∀ m c, (e = .set m c ∨ e = .mov m c ∨ e = .del m) → ∃ L, s m = some L := by
          rintro m c (rfl | rfl | rfl)
          · obtain ⟨L, -, hL, -⟩ := hf; exact ⟨L, hL⟩
          · obtain ⟨L, L', -, hL, -⟩ := hf; exact ⟨L, hL⟩
          · exact hf.elim
        unfold Oper.wp
        rw [hr]
        rcases hnx with rfl | ⟨rfl, rfl⟩
        · rw [Oper.upon_value, hdst]; exact next s' I _ w' hX hkeep hsm
        · rw [Oper.upon_skip, hdst]; exact next s' I _ w' hX hkeep hsm
    · obtain ⟨k, q1, q2⟩ := hguard g want hg
      have hgr := guard_rel (w0 := w0) (I0 := I0) (N := N) q1 q2 x.str
      rw [hgslot g want hg] at hgv
      have hwant : Region.wanted o (yielded rops a.tmps) = false := by
        rcases hgv with q | q
        · rw [hgr.1 _ q]; cases want <;> rfl
        · exact hgr.2 q
      rw [if_neg (by rw [hwant]; simp)]
      rw [hdst]
      refine next s I _ w ?_ (fun n _ => rfl) (fun m c q => by rcases q with q | q | q <;> cases q)
      rw [sameX rfl]
      exact ⟨by rw [tmps_put]; exact x.size, by rw [defers_put]; exact x.defers, TmOk.put x.tm (.t _ _ (.tup [] #[] (fun _ => undef) rfl (fun i x hx => by simp at hx) (fun i x hx => by simp at hx))) (fun n hn => by rw [x.size]; exact hbd n hn), x.rep, x.below, x.own, x.inc, x.new, x.outer⟩

end

section
variable {P : Program} {w0 : Base} {I0 : Nat → Prop} {N : Nat}

theorem news_far {ops : List OpI} (hb : ops.all (bndO N) = true) : ∀ n ∈ news ops, n < far := by
  intro n hn
  unfold news at hn
  obtain ⟨o, ho, he⟩ := List.mem_filterMap.1 hn
  refine bnd_far (List.all_eq_true.1 hb o ho) n ?_
  split at he
  · exact he
  · cases he

theorem draw_sound (hm : P.follows .mixedOrders = true) : DOk P okD (drawW (Has P)) := by
  intro w0 I0 N id rops ops0 st K a w htr hb hok hW hs
  obtain ⟨ops, hops⟩ : ∃ ops, ops = loosen ops0 := ⟨_, rfl⟩
  rw [← hops] at hb hok hW
  have ok := okD_spec hok
  obtain ⟨l, stn, hrun, hK⟩ := dops_run hW
  obtain ⟨s, I, h1, h2, h3, h4, h5, h6, h7, h8, h9⟩ := hs
  have hw : ({ w with drawn := w.drawn + 1 } : World).heap = w.heap := rfl
  have x0 : StX w0 I0 N st.tm (look st.hp) s I a { w with drawn := w.drawn + 1 } :=
    ⟨h1, h2, fun t v hv => (h3 t v hv).mono (fun _ h => h) (fun _ _ => rfl), ⟨fun n o L hn hL => let ⟨p, q⟩ := h4.own n o L hn hL; ⟨p.mono (fun _ h => h) (fun _ _ => rfl) rfl (fun _ _ h => h), q⟩, h4.inj, h4.old⟩,
      ⟨h5.os, h5.tape, h5.output, h5.size, h5.block⟩, h6, h7, h8, h9⟩
  obtain ⟨s', x, hx⟩ := clean_ok (news ops) st s (fun _ => False) (news_far hb) x0 (fun d h => h.elim)
  have hcl : ∀ d ∈ news ops, look (clean (news ops) st).hp d = none := fun d hd => (hx d (.inr hd)).2
  obtain ⟨hlen, -, hat⟩ := drun_at hrun
  obtain ⟨hol, hget⟩ := trOpers_get htr
  obtain ⟨hll, hlg⟩ := loosen_get (ops0 := ops0)
  have holn : ops.length = rops.size := by rw [hops, hll]; simpa using hol
  have hnone : ∀ i, done (Array.replicate rops.size false) i = false := fun i => by
    unfold done
    rw [Array.getD_eq_getD_getElem?, Array.getElem?_replicate]
    split <;> rfl
  refine wp_region_any hm ?_
  refine draw_any (w0 := w0) (I0 := I0) (by rw [hops, hll]; exact hol) (fun j oi hj => by
    rw [hops] at hj
    obtain ⟨o0, h1, h2, h3, h4, h5⟩ := hlg j oi hj
    obtain ⟨o, q1, q2⟩ := hget j o0 h1
    exact ⟨o, o0, q1, q2, h2, h3, h4, h5⟩) hb ok hrun hcl ?_ rops.size (Array.replicate rops.size false) s' I a _ (by simp [holn]) ?_ ?_ ?_ ?_ ?_
  · rintro a w s I x
    exact ⟨.nrm, stn, trivial, ⟨rfl, hK⟩, s, I, x.size, x.defers, x.tm, x.rep, x.below, x.own, x.inc, x.new, x.outer⟩
  · simp
  · intro j hj; rw [hnone] at hj; cases hj
  · rw [xK_none _ 0 ops l _ (fun i o _ _ => hnone _)]
    refine ⟨x.size, x.defers, fun t v hv => ?_, ⟨fun n o L hn hL => ?_, fun n m L M hn hm hL hM => ?_, x.rep.old⟩, x.below, fun n L hn hL => ?_, x.inc, x.new, x.outer⟩
    · rw [tmK_out _ t 0 ops l _ (fun i o _ hS => by rw [hnone] at hS; cases hS)] at hv
      exact x.tm t v hv
    all_goals
      have pre : ∀ n L, s' n = some L → preK ops l (look (clean (news ops) st).hp) n = look (clean (news ops) st).hp n := by
        intro n L hL
        refine preK_out n ops l _ (fun i o v c hi hli e => ?_)
        obtain ⟨v', e', q1, q2, -⟩ := hat i o hi
        rw [hli] at q1; cases q1
        obtain ⟨hmk, d, hd, -⟩ := q2.kind.2.1 c rfl
        rw [hd] at e; simp at e; subst e
        rw [(hx d (.inr (mem_news hi hmk hd))).1] at hL; cases hL
    · rw [pre n L hL] at hn; exact x.rep.own n o L hn hL
    · rw [pre n L hL] at hn; rw [pre m M hM] at hm; exact x.rep.inj n m L M hn hm hL hM
    · rw [pre n L hL] at hn; exact x.own n L hn hL
  · intro q o d hq _ hmk hd
    exact (hx d (.inr (mem_news hq hmk hd))).1
  · intro q o v c d hq hlq _ hd
    rw [xK_none _ 0 ops l _ (fun i o _ _ => hnone _)]
    refine preK_in ops l _ q o v c d ok.dst (fun i o v c hi hli => ?_) hq hlq hd
    obtain ⟨v', e', q1, q2, -⟩ := hat i o hi
    rw [hli] at q1; cases q1
    obtain ⟨-, d, hd, -⟩ := q2.kind.2.1 c rfl
    exact ⟨d, hd⟩

section
variable (hm : P.follows .mixedOrders = true) {f : FuncId} {fn : Func} {cd : Cd} {rs : List RV} (hf : P.funcs[f]? = some fn) (htr : tr P (fn.body.getD .skip) = some cd)
include hm hf htr

/-- A function's contract, out of what its body owes. -/
theorem pure_of {args : List T} {r : T} (hok : (!(fn.name == "runtime.NumGoroutine") && fn.body.isSome && bndC okD fn.ntmps cd && Nat.ble args.length fn.ntmps) = true)
    (hrs : trRes P fn.results.toList = some rs) (hW : W (Has P) (drawW (Has P)) cd ⟨par 0 args, []⟩ (Ret rs r)) : Pure P f args r := by
  simp only [Bool.and_eq_true, Bool.not_eq_true'] at hok
  obtain ⟨⟨⟨h1, h2⟩, h3⟩, h4⟩ := hok
  obtain ⟨c, hc⟩ := Option.isSome_iff_exists.1 h2
  rw [hc] at htr
  exact pure_of_W (draw_sound hm) hf h1 hc htr h3 hrs (Nat.le_of_ble_eq_true h4) hW

theorem eff_of {args : List V} {hp hp' : Hp} {r : V} (hok : (!(fn.name == "runtime.NumGoroutine") && fn.body.isSome && bndC okD fn.ntmps cd && Nat.ble args.length fn.ntmps) = true)
    (hrs : trRes P fn.results.toList = some rs) (hW : W (Has P) (drawW (Has P)) cd ⟨parV 0 args, hp⟩ (RetE rs r hp')) : Eff P f args hp r hp' := by
  simp only [Bool.and_eq_true, Bool.not_eq_true'] at hok
  obtain ⟨⟨⟨h1, h2⟩, h3⟩, h4⟩ := hok
  obtain ⟨c, hc⟩ := Option.isSome_iff_exists.1 h2
  rw [hc] at htr
  exact eff_of_W (draw_sound hm) hf h1 hc htr h3 hrs (Nat.le_of_ble_eq_true h4) hW
end

end

end Go.Eng
