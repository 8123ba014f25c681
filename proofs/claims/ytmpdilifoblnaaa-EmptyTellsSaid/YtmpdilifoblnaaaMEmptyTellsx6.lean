-- A text of this claim (written by this repo's wip/myprint.py).
import Derived.Test.YtmpdilifoblnaaaMEmptyTellsx0
import Derived.Test.YtmpdilifoblnaaaMEmptyTellsx4
import Derived.Test.YtmpdilifoblnaaaMEmptyTellsx5
namespace Go.Proofs.Ytmpdilifoblnaaa.MEmptyTells
open Go.RowKit Go.Proofs.YtmpdilifoblnaaaW.PrintWords Go.Proofs.YtmpdilifoblnaaaW.PrintLast Go.Proofs.YtmpdilifoblnaaaW.PrintMore Go.Proofs.Ytmpdilifoblnaaa.Fun Go.Proofs.Ytmpdilifoblnaaa.Mem
attribute [local go_sem] max2_int min2_int max_two min_two max_three min_three max_four min_four   -- for this text's walks alone
set_option linter.unusedVariables false
set_option linter.unusedSimpArgs false

/-! ### gramaryebase_SameInts: function 14 -/
def gramaryebase_SameInts.l0 : Nat → List Int → List Int → Int → Option (Bool)
  | 0, _, _, _ => none
  | k + 1, x0, x1, x5 => if x5 < (x0.length : Int) then (if 0 ≤ x5 then (if x5 < (x1.length : Int) then (if (rd x0 x5) = (rd x1 x5) then (gramaryebase_SameInts.l0 k x0 x1 (wrap64 (x5 + 1))) else (some false)) else (none)) else (none)) else (some true)
def gramaryebase_SameInts.f (k : Nat) (l0 : List Int) (l1 : List Int) : Option (Bool) := if (l0.length : Int) = (l1.length : Int) then (gramaryebase_SameInts.l0 k l0 l1 0) else (some false)
theorem gramaryebase_SameInts.mono_l : ∀ k, (∀ y0 y1 y2, LeO (gramaryebase_SameInts.l0 k y0 y1 y2) (gramaryebase_SameInts.l0 (k + 1) y0 y1 y2))
  | 0 => fun _ _ _ r h => by simp [gramaryebase_SameInts.l0] at h
  | k + 1 => by
    have ih0 := gramaryebase_SameInts.mono_l k
    · intro y0 y1 y2
      unfold gramaryebase_SameInts.l0
      repeat' first
      | (with_reducible exact ih0 _ _ _)
      | (with_reducible exact LeO.refl _)
      | (with_reducible exact LeO.none _)
      | (with_reducible refine LeO.ite ?_ ?_)
      | (with_reducible refine LeO.bind ?_ (fun _ => ?_))
      | exact ih0 _ _ _
      | exact LeO.none _
      | refine LeO.ite ?_ ?_
      | refine LeO.bind ?_ (fun _ => ?_)
theorem gramaryebase_SameInts.mono : ∀ a0 a1 k, LeO (gramaryebase_SameInts.f k a0 a1) (gramaryebase_SameInts.f (k + 1) a0 a1) := by
  intro a0 a1 k
  have ih0 := gramaryebase_SameInts.mono_l k
  unfold gramaryebase_SameInts.f
  repeat' first
      | (with_reducible exact ih0 _ _ _)
      | (with_reducible exact LeO.refl _)
      | (with_reducible exact LeO.none _)
      | (with_reducible refine LeO.ite ?_ ?_)
      | (with_reducible refine LeO.bind ?_ (fun _ => ?_))
      | exact ih0 _ _ _
      | exact LeO.none _
      | refine LeO.ite ?_ ?_
      | refine LeO.bind ?_ (fun _ => ?_)
set_option maxHeartbeats 8000000 in
set_option maxRecDepth 100000 in
theorem gramaryebase_SameInts.calls (k : Nat) (A0 : Option Addr) (c0 : Nat) (l0 : List Int) (A1 : Option Addr) (c1 : Nat) (l1 : List Int) (r : Bool) (w : World) (hr0 : Kd.C (Kd.int .i64) w A0 l0.length l0) (hc0 : l0.length ≤ c0) (hr1 : Kd.C (Kd.int .i64) w A1 l1.length l1) (hc1 : l1.length ≤ c1) (h : gramaryebase_SameInts.f k l0 l1 = some r) :
    Calls Try.prog 14 #[.slice A0 l0.length c0, .slice A1 l1.length c1] w fun e w' => e = .returned (.bool r) ∧ Drawn0 w w' := by
  have HR0 := Aside0.mk hr0
  have HC0 := Aside0.mk hc0
  clear hr0 hc0
  have HR1 := Aside0.mk hr1
  have HC1 := Aside0.mk hc1
  clear hr1 hc1
  have H : (if (l0.length : Int) = (l1.length : Int) then (gramaryebase_SameInts.l0 k l0 l1 0) else (some false)) = some r := h
  clear h
  by_cases c3 : (l0.length : Int) = (l1.length : Int)
  · rw [if_pos c3] at H
    have c3b0 : ((l0.length : Int) == (l1.length : Int)) = true := beq_iff_eq.mpr c3
    have c3b1 : ((l0.length : Int) != (l1.length : Int)) = false := bne_eq_false_iff_eq.mpr c3
    have c3b2 : (l0.length == l1.length) = true := by first | simpa using c3 | (simp at c3 ⊢; omega)
    clear c3
    have H' := Aside0.mk H
    clear H
    go_enter Try.func14, Try.ntmps14
    go_wp2
    repeat (go_quiet (fail); try go_wp2)
    (try (with_reducible (show Code.wp _ _ _ (Act.put _ _ _) _); go_simp))
    go_loopg [5] k (fun kq v5 w' => ∃ (x5_1 : Int), v5 = .int .i64 x5_1 ∧ Aside0 (gramaryebase_SameInts.l0 kq l0 l1 x5_1 = some r) ∧ Aside0 (kq ≤ k) ∧ Drawn0 w w')
    case atStart => exact ⟨(0), (by first | rfl | (simp; done) | (simp [*]; done)), H', ⟨Nat.le_refl _⟩, by repeat (first | exact Drawn0.refl _ | apply Drawn0.step)⟩
    case round =>
      clear H'
      try clear c1
      try clear p2
      try clear c3
      try clear c3b0
      try clear c3b1
      try clear c3b2
      obtain ⟨x5_1, rfl, HA, HK1, ⟨m1, rfl⟩⟩ := hrel
      cases gk with
      | zero => exact absurd HA.out (by simp [gramaryebase_SameInts.l0])
      | succ k1 =>
        have H := HA.out
        clear HA
        simp only [gramaryebase_SameInts.l0] at H
        by_cases c4 : x5_1 < (l0.length : Int)
        · rw [if_pos c4] at H
          have c4b0 : decide (x5_1 < (l0.length : Int)) = true := decide_eq_true c4
          clear c4
          by_cases c5 : 0 ≤ x5_1
          · rw [if_pos c5] at H
            have c5b0 : decide (0 ≤ x5_1) = true := decide_eq_true c5
            clear c5
            by_cases c6 : x5_1 < (l1.length : Int)
            · rw [if_pos c6] at H
              have c6b0 : decide (x5_1 < (l1.length : Int)) = true := decide_eq_true c6
              clear c6
              by_cases c7 : (rd l0 x5_1) = (rd l1 x5_1)
              · rw [if_pos c7] at H
                have c7b0 : ((rd l0 x5_1) == (rd l1 x5_1)) = true := beq_iff_eq.mpr c7
                have c7b1 : ((rd l0 x5_1) != (rd l1 x5_1)) = false := bne_eq_false_iff_eq.mpr c7
                clear c7
                have H' := Aside0.mk H
                clear H
                have p145 : 0 ≤ (x5_1 : Int) := of_decide_eq_true (by first | (with_reducible assumption) | assumption)
                have q145 : x5_1 < (l0.length : Int) := of_decide_eq_true (by first | (with_reducible assumption) | assumption)
                obtain ⟨ad145, e145, hx145_0⟩ := Kd.at_int HR0.out x5_1 p145 q145
                cases e145
                replace p145 := eq_true p145
                replace q145 := eq_true q145
                have p146 : 0 ≤ (x5_1 : Int) := of_decide_eq_true (by first | (with_reducible assumption) | assumption)
                have q146 : x5_1 < (l1.length : Int) := of_decide_eq_true (by first | (with_reducible assumption) | assumption)
                obtain ⟨ad146, e146, hx146_0⟩ := Kd.at_int HR1.out x5_1 p146 q146
                cases e146
                replace p146 := eq_true p146
                replace q146 := eq_true q146
                go_wp2
                repeat (go_quiet (fail); try go_wp2)
                go_roundg k1
                case measure => have := HK1.out; omega
                case rel => exact ⟨(wrap64 (x5_1 + 1)), (by first | rfl | (simp; done) | (simp [*]; done)), H', ⟨by have := HK1.out; omega⟩, by repeat (first | exact Drawn0.refl _ | apply Drawn0.step)⟩
              · rw [if_neg c7] at H
                have c7b0 : ((rd l0 x5_1) == (rd l1 x5_1)) = false := beq_eq_false_iff_ne.mpr c7
                have c7b1 : ((rd l0 x5_1) != (rd l1 x5_1)) = true := bne_iff_ne.mpr c7
                obtain rfl := Option.some.inj H
                have p145 : 0 ≤ (x5_1 : Int) := of_decide_eq_true (by first | (with_reducible assumption) | assumption)
                have q145 : x5_1 < (l0.length : Int) := of_decide_eq_true (by first | (with_reducible assumption) | assumption)
                obtain ⟨ad145, e145, hx145_0⟩ := Kd.at_int HR0.out x5_1 p145 q145
                cases e145
                replace p145 := eq_true p145
                replace q145 := eq_true q145
                have p146 : 0 ≤ (x5_1 : Int) := of_decide_eq_true (by first | (with_reducible assumption) | assumption)
                have q146 : x5_1 < (l1.length : Int) := of_decide_eq_true (by first | (with_reducible assumption) | assumption)
                obtain ⟨ad146, e146, hx146_0⟩ := Kd.at_int HR1.out x5_1 p146 q146
                cases e146
                replace p146 := eq_true p146
                replace q146 := eq_true q146
                go_wp2
                repeat (go_quiet (fail); try go_wp2)
                go_ret
                exact ⟨by first | rfl | (simp; done) | (simp [*]; done), by repeat (first | exact Drawn0.refl _ | apply Drawn0.step)⟩
            · rw [if_neg c6] at H
              exact absurd H (by simp)
          · rw [if_neg c5] at H
            exact absurd H (by simp)
        · rw [if_neg c4] at H
          have c4b0 : decide (x5_1 < (l0.length : Int)) = false := decide_eq_false c4
          clear c4
          obtain rfl := Option.some.inj H
          go_wp2
          repeat (go_quiet (fail); try go_wp2)
          go_ret
          exact ⟨by first | rfl | (simp; done) | (simp [*]; done), by repeat (first | exact Drawn0.refl _ | apply Drawn0.step)⟩
  · rw [if_neg c3] at H
    have c3b0 : ((l0.length : Int) == (l1.length : Int)) = false := beq_eq_false_iff_ne.mpr c3
    have c3b1 : ((l0.length : Int) != (l1.length : Int)) = true := bne_iff_ne.mpr c3
    have c3b2 : (l0.length == l1.length) = false := by first | simpa using c3 | (simp at c3 ⊢; omega)
    obtain rfl := Option.some.inj H
    go_enter Try.func14, Try.ntmps14
    go_wp2
    repeat (go_quiet (fail); try go_wp2)
    go_ret
    exact ⟨by first | rfl | (simp; done) | (simp [*]; done), by repeat (first | exact Drawn0.refl _ | apply Drawn0.step)⟩

/-! ### empty_asker_grow_1: function 79 -/
/-- What is asked of the test that is handed to grow. -/
def IsK (g : Nat) (lb : Array Value) (is : S59 → List Bool → Bool) (n : Nat) (w : World) : Prop :=
  ∀ (W : World) (s : S59) (m : List Bool) (A : Option Addr) (c : Nat), Below w.heap.size w W → SymOk n s → m.length = n → Kd.C Kd.bool W A m.length m → m.length ≤ c →
    Calls Try.prog g (#[.agg #[.bool s.f0, .int .i64 s.f1], .slice A m.length c] ++ lb) W fun e w' => e = .returned (.bool (is s m)) ∧ Below W.heap.size W w'
set_option maxHeartbeats 2000000 in
theorem empty_grow1 {gi gm g n c : Nat} {lb : Array Value} {is : S59 → List Bool → Bool} {A : Option Addr} {m : List Bool} (w : World) (hi : w.cell? ⟨gi, 0, none⟩ = some (.func (.func g) #[] lb)) (hm : w.cell? ⟨gm, 0, none⟩ = some (.slice A m.length c))
    (hC : Kd.C Kd.bool w A m.length m) (hc : m.length ≤ c) (hn : m.length = n) (his : IsK g lb is n w) (eg : ∀ args w, (callFunc g args).run Try.prog w = .ok (.enter g args) w) :
    PredK Try.prog true k59 79 #[.pointer (some ⟨gi, 0, none⟩), .pointer (some ⟨gm, 0, none⟩)] (fun s => !is s m) (SymOk n) w := by
  intro W s cs hb hK hs
  obtain rfl := k59_open hK
  have h0 := pw_cell_below hb hi
  have h1 := pw_cell_below hb hm
  have l0 := World.block_lt_of_cell? W _ h0
  have l1 := World.block_lt_of_cell? W _ h1
  have HC := fun (W' : World) (hb' : Below W.heap.size W W') => his W' s m A c (below_step hb hb') hs hn (Kd.C_below (Kd.C_below hC hb) hb') hc
  have HC := Aside0.mk HC
  clear hC hi hm hs his hc hn
  show Calls Try.prog 79 #[.agg #[.bool s.f0, .int .i64 s.f1], .pointer (some ⟨gi, 0, none⟩), .pointer (some ⟨gm, 0, none⟩)] W fun e w' => e = .returned (.bool (!is s m)) ∧ Below W.heap.size W w'
  generalize is s m = q at HC
  go_enter Try.func79, Try.ntmps79
  go_wp2_with fail
  refine (HC.out _ ((Below.refl _ _).alloc (Nat.le_refl _) _)).mono ?_
  rintro e w' ⟨rfl, hb'⟩
  go_wp2_with fail
  go_ret
  exact ⟨rfl, below_step ((Below.refl _ _).alloc (Nat.le_refl _) _) hb'⟩


/-! ### empty_asker_grow: function 67 -/
/-- grow's rounds: what is marked, and which productions wait. -/
def growG (is : S59 → List Bool → Bool) (who : List (Int × Int)) (L : List S51) : Nat → List Bool → List Int → Option (List Bool)
  | 0, _, _ => none
  | _ + 1, m, [] => some m
  | k + 1, m, i :: rest =>
    if 0 ≤ i ∧ i < (L.length : Int) ∧ 0 ≤ (rd_T51 L i).f0 ∧ (rd_T51 L i).f0 < (m.length : Int) then
      if rdOf false m (rd_T51 L i).f0 = true then growG is who L k m rest
      else if (rd_T51 L i).f1.any (fun s => !is s m) = true then growG is who L k m rest
      else if rest.length + (whoOf who (rd_T51 L i).f0).length < 17592186044416 then growG is who L k (m.set (rd_T51 L i).f0.toNat true) (rest ++ whoOf who (rd_T51 L i).f0)
      else none
    else none
/-- The world of grow's rounds, but for what waits. -/
structure GrowS (w wr : World) (av : Array Value) (fv : Value) (n : Nat) (m : List Bool) : Prop where
  b : Below w.heap.size w wr
  ask : wr.heap[w.heap.size]? = some (.cells av 55 (0, 0))
  isb : wr.heap[w.heap.size + 1]? = some (.cells #[fv] 62 (0, 0))
  row : Kd.R Kd.bool 4 wr w.heap.size (fun k => k = w.heap.size + 1 + 1) (.slice (some ⟨w.heap.size + 1 + 1, 0, none⟩) n n) m
  len : m.length = n
  box : wr.heap[w.heap.size + 1 + 1 + 1]? = some (.cells #[.slice (some ⟨w.heap.size + 1 + 1, 0, none⟩) n n] 35 (0, 0))
section
variable {w wr w1 : World} {av : Array Value} {fv : Value} {n : Nat} {m : List Bool}
theorem GrowS.kept (h : GrowS w wr av fv n m) (hb : Below wr.heap.size wr w1) : GrowS w w1 av fv n m :=
  ⟨below_step h.b hb, (hb.block _ (blk_lt h.ask)).trans h.ask, (hb.block _ (blk_lt h.isb)).trans h.isb, Kd.R_below h.row hb, h.len, (hb.block _ (blk_lt h.box)).trans h.box⟩
theorem GrowS.grown (h : GrowS w wr av fv n m) {row : Option Nat} (hg : wr.grownBy w1 row) (hx : ∀ k, row = some k → w.heap.size + 1 + 1 + 1 < k) : GrowS w w1 av fv n m := by
  have ne : ∀ k, k ≤ w.heap.size + 1 + 1 + 1 → some k ≠ row := fun k hk e => by have := hx k e.symm; omega
  exact ⟨pw_below_grown h.b row h.b.size hg (fun k hk => by have := hx k hk; omega), (hg.block _ (blk_lt h.ask) (ne _ (by omega))).trans h.ask, (hg.block _ (blk_lt h.isb) (ne _ (by omega))).trans h.isb,
    Kd.R_grown h.row hg (fun k hk => ne k (by omega)), h.len, (hg.block _ (blk_lt h.box) (ne _ (by omega))).trans h.box⟩
theorem GrowS.mark (h : GrowS w wr av fv n m) (i : Int) : GrowS w (wr.setCell ⟨w.heap.size + 1 + 1, i.toNat, none⟩ (.bool true)) av fv n (m.set i.toNat true) := by
  have hg := grown_set wr (w.heap.size + 1 + 1) i.toNat (.bool true)
  have hr := Kd.R_putn h.row i true
  have ne : ∀ k, k ≠ w.heap.size + 1 + 1 → some k ≠ some (w.heap.size + 1 + 1) := fun k hk e => hk (by injection e)
  exact ⟨below_set h.b (by omega), (hg.block _ (blk_lt h.ask) (ne _ (by omega))).trans h.ask, (hg.block _ (blk_lt h.isb) (ne _ (by omega))).trans h.isb, hr, by rw [List.length_set]; exact h.len, (hg.block _ (blk_lt h.box) (ne _ (by omega))).trans h.box⟩
end
set_option maxHeartbeats 4000000 in
set_option maxRecDepth 100000 in
theorem empty_grow_calls (toks look : Int) (A2 : Option Addr) (c2 : Nat) (o : List Int) (A3 : Option Addr) (c3 : Nat) (L : List S51) (gw g : Nat) (lb : Array Value) (is : S59 → List Bool → Bool) (w : World)
    (r2 : Kd.C (Kd.int .i64) w A2 o.length o) (l2 : o.length ≤ c2) (r3 : Kd.C k51 w A3 L.length L) (l3 : L.length ≤ c3) (hwho : Who w gw (occ 0 L)) (hlen : (occ 0 L).length ≤ 1000000000)
    (hok : ∀ p ∈ L, 0 ≤ p.f0 ∧ p.f0 < (o.length : Int) ∧ ∀ s ∈ p.f1, SymOk o.length s) (hom : o.length ≤ 1000000000) (hLm : L.length ≤ 1000000000) (his : IsK g lb is o.length w) (eg : ∀ args w, (callFunc g args).run Try.prog w = .ok (.enter g args) w)
    (K : Nat) (r : List Bool) (h : growG is (occ 0 L) L K (List.replicate o.length false) (upTo L.length) = some r) :
    Calls Try.prog 67 #[.agg #[.int .i64 toks, .int .i64 look, .slice A2 o.length c2, .slice A3 L.length c3, .map (some gw)], .func (.func g) #[] lb] w
      fun e w' => ∃ v, e = .returned v ∧ Kd.R Kd.bool 4 w' w.heap.size (fun _ => True) v r ∧ Below w.heap.size w w' := by
  have hmk1 := fun W => run_make_row' (P := Try.prog) 35 4 (.bool false) 1 Try.underlying35 asks_infoB rfl .i64 .i64 o.length (by omega) (by omega) W
  have hmk2 := fun W => run_make_row' (P := Try.prog) 22 3 (.int .i64 0) 8 Try.underlying22 asks_infoI rfl .i64 .i64 L.length (by omega) (by omega) W
  have HR3 := Aside0.mk r3
  have HW := Aside0.mk hwho
  have HOK := Aside0.mk hok
  have HLEN := Aside0.mk hlen
  have HIS := Aside0.mk his
  have H0 := Aside0.mk h
  clear r2 r3 hwho hok hlen his h
  go_enter Try.func67, Try.ntmps67
  go_wp2_with fail
  obtain ⟨av, hav⟩ : ∃ av : Array Value, av = #[.int .i64 toks, .int .i64 look, .slice A2 o.length c2, .slice A3 L.length c3, .map (some gw)] := ⟨_, rfl⟩
  have HAV := Aside0.mk hav
  clear hav
  go_loopg [21] L.length (fun gg v21 wr => ∃ kk : Nat, kk ≤ L.length ∧ L.length - kk ≤ gg ∧ v21 = .int .i64 kk ∧ Aside0 (GrowS w wr av (.func (.func g) #[] lb) o.length (List.replicate o.length false)) ∧ Aside0 (Kd.R (Kd.int .i64) 3 wr (w.heap.size + 1 + 1 + 1 + 1) (fun _ => True) (.slice (some ⟨w.heap.size + 1 + 1 + 1 + 1, 0, none⟩) L.length L.length) (upTo kk ++ List.replicate (L.length - kk) 0)))
  case atStart =>
    refine ⟨0, Nat.zero_le _, by omega, rfl, ⟨?_, ?_, ?_, ?_, ?_, ?_⟩, ⟨?_⟩⟩
    · repeat (first | exact Below.refl _ _ | apply below_alloc)
    · rw [HAV.out]; exact hp_old (hp_old (hp_old (hp_old (hp_new (by simp)))))
    · exact hp_old (hp_old (hp_old (hp_new (by simp))))
    · refine Kd.R_below (Kd.R_below (w1 := World.alloc _ _) ?_ (below_alloc (Below.refl _ _) _)) (below_alloc (Below.refl _ _) _)
      have h := R_madeS (enc := Value.bool) (h1 := fun _ => rfl) false ((w.alloc (.cells #[.int .i64 toks, .int .i64 look, .slice A2 o.length c2, .slice A3 L.length c3, .map (some gw)] 55)).alloc (.cells #[.func (.func g) #[] lb] 62)) w.heap.size 4 o.length (by simp; omega) (by omega) (ok := fun k => k = w.heap.size + 1 + 1) (by simp)
      simp at h
      exact h
    · simp
    · exact hp_old (hp_new (by simp))
    · have h := R_madeS (enc := Value.int .i64) (h1 := fun _ => rfl) 0 ((((w.alloc (.cells #[.int .i64 toks, .int .i64 look, .slice A2 o.length c2, .slice A3 L.length c3, .map (some gw)] 55)).alloc (.cells #[.func (.func g) #[] lb] 62)).alloc (.cells (madeCells #[.bool false] o.length) 4)).alloc (.cells #[.slice (some ⟨w.heap.size + 1 + 1, 0, none⟩) o.length o.length] 35)) (w.heap.size + 1 + 1 + 1 + 1) 3 L.length (by simp) (by omega) (ok := fun _ => True) trivial
      simp at h
      exact h
  case round =>
    obtain ⟨kk, hkk, hg, rfl, HS, HQ⟩ := hrel
    by_cases hlt : kk < L.length
    · have hltz : (kk : Int) < (L.length : Int) := by omega
      obtain ⟨hx, hf⟩ := Kd.R_celln 0 HQ.out (kk : Int) (by omega) (by omega)
      rw [Int.toNat_natCast] at hx hf
      go_wp2_with fail
      go_roundg (L.length - (kk + 1))
      case measure => omega
      case rel =>
        refine ⟨kk + 1, by omega, by omega, by go_num, ⟨HS.out.grown (grown_set _ _ _ _) (fun k e => by cases e; omega)⟩, ⟨?_⟩⟩
        have h := Kd.R_putn HQ.out (kk : Int) (kk : Int)
        rw [Int.toNat_natCast, fill_step _ _ hlt] at h
        exact h
    · have hkl : kk = L.length := by omega
      subst hkl
      have HQ2 := Aside0.mk (QInts.of_R HQ.out)
      rw [Nat.sub_self, List.replicate_zero, List.append_nil] at HQ2
      clear HQ
      go_wp2_with fail
      go_loopg [6] K (fun kq v6 wr => ∃ (m : List Bool) (l : List Int), Aside0 (growG is (occ 0 L) L kq m l = some r) ∧ Aside0 (GrowS w wr av (.func (.func g) #[] lb) o.length m) ∧ Aside0 (QInts wr (w.heap.size + 1 + 1 + 1 + 1) 3 v6 l))
      case atStart => exact ⟨_, _, H0, HS, HQ2⟩
      case round =>
        clear HS HQ2 H0
        obtain ⟨m, l, HG, HS, HQ⟩ := hrel
        obtain ⟨A, c, rfl, hc⟩ := HQ.out.slice
        have hlm := HQ.out.max_
        cases gk with
        | zero => exact absurd HG.out (by simp [growG])
        | succ k1 =>
          cases l with
          | nil =>
            have hfin : m = r := by have := HG.out; simpa [growG] using this
            subst hfin
            have hbx : wr.cell? ⟨w.heap.size + 1 + 1 + 1, 0, none⟩ = some (.slice (some ⟨w.heap.size + 1 + 1, 0, none⟩) o.length o.length) := (blk_cell HS.out.box 0).trans rfl
            go_wp2_with fail
            go_ret
            exact ⟨_, rfl, Kd.R_mono HS.out.row (fun _ _ => trivial), HS.out.b⟩
          | cons i rest =>
            have H := HG.out
            clear HG
            unfold growG at H
            by_cases hin : 0 ≤ i ∧ i < (L.length : Int) ∧ 0 ≤ (rd_T51 L i).f0 ∧ (rd_T51 L i).f0 < (m.length : Int)
            · rw [if_pos hin] at H
              obtain ⟨i0, i1, p0, p1⟩ := hin
              have H' := Aside0.mk H
              clear H
              obtain ⟨adw, hA, hcw⟩ := HQ.out.head_
              subst hA
              obtain ⟨ad, A1, c1, hA3, hx0, hx1, l1, r1⟩ := at_T51 HR3.out i i0 i1
              subst hA3
              replace hx0 := pw_cell_below HS.out.b hx0
              replace hx1 := pw_cell_below HS.out.b hx1
              have hLc : wr.cell? ⟨w.heap.size, 3, none⟩ = some (.slice (some ad) L.length c3) := (blk_cell HS.out.ask 3).trans (by rw [HAV.out]; rfl)
              have hpos : (0 : Int) < ((rest.length : Nat) + 1 : Int) := by omega
              simp only [List.length_cons] at hlm hc
              have HR1 := Aside0.mk r1
              have HL1 := Aside0.mk l1
              have ne1 := World.new_ne wr _ hLc
              have ne2 := World.new_ne wr _ hcw
              have ne3 := World.new_ne wr _ hx0
              have ne4 := World.new_ne wr _ hx1
              have HP := Aside0.mk (HOK.out (rd_T51 L i) (by
                have e : rd_T51 L i = L[i.toNat]'(by omega) := by unfold rd_T51; rw [List.getD_eq_getElem?_getD, List.getElem?_eq_getElem (by omega)]; rfl
                rw [e]; exact List.getElem_mem _))
              obtain ⟨vt, hvt⟩ : ∃ vt : Value, vt = .slice (if c = 1 then some adw else (some adw).map (·.add 1)) rest.length (c - 1) := ⟨_, rfl⟩
              have HT := Aside0.mk (show QInts wr (w.heap.size + 1 + 1 + 1 + 1) 3 vt rest by rw [hvt]; exact HQ.out.drop_)
              have hcut : ∀ W, (Instr.slice 22 (.slice (some adw) (rest.length + 1) c) (some (.int .i64 1)) none none).run Try.prog W = .ok vt W := by
                intro W
                obtain ⟨j0, hj, hj2⟩ := Option.map_eq_some_iff.1 asks_infoI
                simp only [Prod.mk.injEq] at hj2
                rw [hvt, cut_from 22 3 .i64 Try.underlying22 hj 1 hj2.2.1 (some adw) (rest.length + 1) c 1 (by omega) (by omega) W]
                simp
              clear hvt HQ
              have hbox1 : ((wr.alloc (.cells #[.int .i64 (rd_T51 L i).f0, .slice A1 (rd_T51 L i).f1.length c1] 51)).drew).heap[wr.heap.size]? = some (.cells #[.int .i64 (rd_T51 L i).f0, .slice A1 (rd_T51 L i).f1.length c1] 51 (0, 0)) := hp_new (w := wr) rfl
              have hb1 : Below wr.heap.size wr ((wr.alloc (.cells #[.int .i64 (rd_T51 L i).f0, .slice A1 (rd_T51 L i).f1.length c1] 51)).drew) := below_drew1 (below_alloc (Below.refl _ _) _)
              have HS1 := Aside0.mk (HS.out.kept hb1)
              have HT1 := Aside0.mk (HT.out.below hb1)
              have hgp : w.heap.size + 1 + 1 + 1 < wr.heap.size := blk_lt HS.out.box
              clear r1 l1
              go_wp2_with fail
              go_region_held3 (fun w' => w'.cell? ⟨w.heap.size, 3, none⟩ = some (.slice (some ad) L.length c3) ∧ w'.cell? adw = some (.int .i64 i) ∧ w'.cell? (ad.add (i.toNat * 2)) = some (.int .i64 (rd_T51 L i).f0) ∧ w'.cell? ⟨(ad.add (i.toNat * 2)).block, (ad.add (i.toNat * 2)).off + 1, none⟩ = some (.slice A1 (rd_T51 L i).f1.length c1))
                (go_keep) (fail)
              clear HS HT hx0 hx1 hLc hcw ne1 ne2 ne3 ne4 hb1
              generalize (wr.alloc (.cells #[.int .i64 (rd_T51 L i).f0, .slice A1 (rd_T51 L i).f1.length c1] 51)).drew = W1 at hbox1 HS1 HT1
              generalize wr.heap.size = gp at hbox1 hgp
              have hbx : W1.cell? ⟨w.heap.size + 1 + 1 + 1, 0, none⟩ = some (.slice (some ⟨w.heap.size + 1 + 1, 0, none⟩) o.length o.length) := (blk_cell HS1.out.box 0).trans rfl
              have hp0 : W1.cell? ⟨gp, 0, none⟩ = some (.int .i64 (rd_T51 L i).f0) := (blk_cell hbox1 0).trans rfl
              have hp1 : W1.cell? ⟨gp, 1, none⟩ = some (.slice A1 (rd_T51 L i).f1.length c1) := (blk_cell hbox1 1).trans rfl
              have hmo : m.length = o.length := HS1.out.len
              have p1' : (rd_T51 L i).f0 < (o.length : Int) := by omega
              obtain ⟨hmc, hmf⟩ := Kd.R_celln false HS1.out.row (rd_T51 L i).f0 p0 p1'
              have HR1' := Aside0.mk (Kd.C_below HR1.out HS1.out.b)
              have HPC := fun (W : World) (hb : Below W1.heap.size W1 W) => api_Sym_45.calls A1 c1 (rd_T51 L i).f1 79 #[.pointer (some ⟨w.heap.size + 1, 0, none⟩), .pointer (some ⟨w.heap.size + 1 + 1 + 1, 0, none⟩)] (fun s => !is s m) W (Kd.C_below HR1'.out hb) HL1.out
                (fun args w => enters_ Try.func79 (by kernel_rfl) rfl args w)
                (fun W2 s cs hb2 hK hs => empty_grow1 (A := some ⟨w.heap.size + 1 + 1, 0, none⟩) (m := m) (c := o.length) W1 ((blk_cell HS1.out.isb 0).trans rfl) (by rw [hmo]; exact hbx) (Kd.R_reads' HS1.out.row).2.2 (by omega) hmo (fun W3 s m A c hb3 h1 h2 h3 h4 => HIS.out W3 s m A c (below_step HS1.out.b hb3) h1 h2 h3 h4) eg W2 s cs (below_step hb hb2) hK (HP.out.2.2 s hs))
              have HPC := Aside0.mk HPC
              by_cases hmk : rdOf false m (rd_T51 L i).f0 = true
              · have H2 := H'.out
                rw [if_pos hmk] at H2
                have H3 := Aside0.mk H2
                rw [hmk] at hmc
                clear hmk H2 HPC
                go_wp2_with fail
                go_roundg k1
                case measure => omega
                case rel => exact ⟨m, rest, H3, HS1, HT1⟩
              · have H2 := H'.out
                rw [if_neg hmk] at H2
                have hmk2 : rdOf false m (rd_T51 L i).f0 = false := by simpa using hmk
                rw [hmk2] at hmc
                clear hmk hmk2
                generalize ((rd_T51 L i).f1.any fun s => !is s m) = q at HPC H2
                go_wp2_with fail
                refine (HPC.out _ (Below.refl _ _)).mono ?_
                rintro e w' ⟨rfl, hb'⟩
                have HS2 := Aside0.mk (HS1.out.kept hb')
                have HT2 := Aside0.mk (HT1.out.below hb')
                have hp0' := pw_cell_below hb' hp0
                have hbx' := pw_cell_below hb' hbx
                clear HPC HT1 hmc hmf hp0 hp1 hbx hb' HS1 hbox1
                cases q with
                | true =>
                  rw [if_pos rfl] at H2
                  have H3 := Aside0.mk H2
                  clear H2
                  go_wp2_with fail
                  go_roundg k1
                  case measure => omega
                  case rel => exact ⟨m, rest, H3, HS2, HT2⟩
                | false =>
                  rw [if_neg (by decide)] at H2
                  by_cases hroom : rest.length + (whoOf (occ 0 L) (rd_T51 L i).f0).length < 17592186044416
                  · rw [if_pos hroom] at H2
                    have H3 := Aside0.mk H2
                    have HRM := Aside0.mk hroom
                    clear H2 hroom
                    obtain ⟨hmc, hmf⟩ := Kd.R_celln false HS2.out.row (rd_T51 L i).f0 p0 p1'
                    go_wp2_with (first | ((with_reducible refine gate_store (t := 4) (p := 56) rfl ?_); refine store_event (t := 4) (p := 56) (v := ?vo_w24) (w1 := (w'.setCell ⟨w.heap.size + 1 + 1, (rd_T51 L i).f0.toNat, none⟩ (.bool true))) ?hg ?ho ?hn ?hr ?_; (case ho => rfl); (case hg => rfl); (case hn => rfl); (case hr => first | (go_simp; done) | (go_simp; rfl)); intro W3 hw; have HS3 := Aside0.mk (show GrowS w W3 av (.func (.func g) #[] lb) o.length (m.set (rd_T51 L i).f0.toNat true) by rw [hw]; exact HS2.out.mark _); have HT3 := Aside0.mk (show QInts W3 (w.heap.size + 1 + 1 + 1 + 1) 3 vt rest by rw [hw]; exact HT2.out.grown (grown_set _ _ _ _) (fun k e => by cases e; omega)); have hp3 : W3.cell? ⟨gp, 0, none⟩ = some (.int .i64 (rd_T51 L i).f0) := (by rw [hw, cell_far (by show gp ≠ w.heap.size + 1 + 1; omega)]; exact hp0'); clear hw HS2 HT2 hmc hmf hp0' hbx'; have hwc : W3.cell? ⟨w.heap.size, 4, none⟩ = some (.map (some gw)) := (blk_cell HS3.out.ask 4).trans (by rw [HAV.out]; rfl); obtain ⟨base, hwb⟩ := HW.out.kept HS3.out.b; obtain ⟨n0, D, hown, hn, hD, hit⟩ := hwb.out; have hlen := HLEN.out; obtain ⟨v2, zs, hrun, hat, hoi, hzl, hback⟩ := hown.at law_int Try.underlying53 (zero_ints _) (by unfold maxLen; omega) (Maps.keyOf_int_mk (P := Try.prog) (k := 3) Try.underlying3 (a := (rd_T51 L i).f0) (WalkArith.wf_i64 ⟨by omega, by omega⟩)); have hz : zs = whoOf (occ 0 L) (rd_T51 L i).f0 := (by rw [← hit, hat, itemsOf_row hoi]); clear hback hat hit hD hn hown hwb hlen hzl; subst hz; obtain ⟨A4, c4, rfl, hc4, hC4⟩ := ints_read hoi; clear hoi; obtain ⟨j0, hj, hj2⟩ := Option.map_eq_some_iff.1 asks_infoI; simp only [Prod.mk.injEq] at hj2; obtain ⟨v5, W5, hrun5, HQ4, HG4, HA4⟩ := HT3.out.append_ (P := Try.prog) 22 22 j0 (.int .i64 0) Try.underlying22 hj hj2.1 hj2.2.1 hj2.2.2 rfl (A := A4) (c := c4) hC4 HRM.out (by have := blk_lt HS3.out.box; omega); replace HQ4 := Aside0.mk HQ4; replace HG4 := Aside0.mk HG4; clear HA4 hC4 hc4 hj hj2; replace hrun5 := Aside0.mk hrun5) | ((with_reducible refine gate_builtin (b := .append) (xs := #[.tmp 57, .tmp 62]) rfl ?_); (try (refine gate_guard (by rfl) ?_; dsimp only)); at_builtin; refine wp_append_run rfl (.tmp 57) (.tmp 62) 22 rfl (by rfl) (by rfl) hrun5.out ?_))
                    go_roundg k1
                    case measure => omega
                    case rel => exact ⟨_, _, H3, ⟨HS3.out.grown HG4.out (fun k e => by have := HT3.out.base_ k e; omega)⟩, HQ4⟩
                  · rw [if_neg hroom] at H2
                    exact absurd H2 (by simp)
            · rw [if_neg hin] at H
              exact absurd H (by simp)


/-! ### empty_marks: function 42 -/
/-- What is marked of plain rules that may be. -/
def empty_marksF (is : S59 → List Bool → Bool) (toks look : Int) (o : List Int) (L : List S51) : Option (List Bool × Int) :=
  if bnf_mayB toks look o L = 0 then (growG is (occ 0 L) L (L.length + o.length * (occ 0 L).length + 1) (List.replicate o.length false) (upTo L.length)).map (fun m => (m, 0)) else some ([], bnf_mayB toks look o L)
def empty_marksP (r1 : List Bool) (r2 : Int) (w : World) (e : Ending) (w' : World) : Prop := ∃ v0_ : Value, e = .returned (.tuple #[v0_, .int .i64 r2]) ∧ Kd.R Kd.bool 4 w' w.heap.size (fun _ => True) v0_ r1 ∧ Below w.heap.size w w'
set_option maxHeartbeats 4000000 in
set_option maxRecDepth 100000 in
theorem empty_marks_calls (toks look : Int) (A2 : Option Addr) (c2 : Nat) (o : List Int) (A3 : Option Addr) (c3 : Nat) (L : List S51) (g : Nat) (lb : Array Value) (is : S59 → List Bool → Bool) (r1 : List Bool) (r2i : Int) (w : World)
    (r2 : Kd.C (Kd.int .i64) w A2 o.length o) (l2 : o.length ≤ c2) (r3 : Kd.C k51 w A3 L.length L) (l3 : L.length ≤ c3) (his : ∀ n W, IsK g lb is n W) (eg : ∀ args w, (callFunc g args).run Try.prog w = .ok (.enter g args) w)
    (h : empty_marksF is toks look o L = some (r1, r2i)) :
    Calls Try.prog 42 #[.agg #[.int .i64 toks, .int .i64 look, .slice A2 o.length c2, .slice A3 L.length c3], .func (.func g) #[] lb] w (empty_marksP r1 r2i w) := by
  obtain ⟨W1, hW1⟩ : ∃ W1, W1 = w.alloc (.cells #[.int .i64 toks, .int .i64 look, .slice A2 o.length c2, .slice A3 L.length c3] 25) := ⟨_, rfl⟩
  have hb1 : Below w.heap.size w W1 := by rw [hW1]; exact below_alloc (Below.refl _ _) _
  have hbx : W1.heap[w.heap.size]? = some (.cells #[.int .i64 toks, .int .i64 look, .slice A2 o.length c2, .slice A3 L.length c3] 25 (0, 0)) := by rw [hW1]; exact hp_new rfl
  have HM := fun (W : World) (hb : Below w.heap.size w W) => bnf_may_calls toks look A2 c2 o A3 c3 L W (Kd.C_below r2 hb) l2 (Kd.C_below r3 hb) l3
  have HM := Aside0.mk HM
  have HR2 := Aside0.mk r2
  have HR3 := Aside0.mk r3
  have HIS := Aside0.mk his
  have HB1 := Aside0.mk hb1
  have HBX := Aside0.mk hbx
  have HH := Aside0.mk h
  have x0 : W1.cell? ⟨w.heap.size, 0, none⟩ = some (.int .i64 toks) := (blk_cell hbx 0).trans rfl
  have x1 : W1.cell? ⟨w.heap.size, 1, none⟩ = some (.int .i64 look) := (blk_cell hbx 1).trans rfl
  have x2 : W1.cell? ⟨w.heap.size, 2, none⟩ = some (.slice A2 o.length c2) := (blk_cell hbx 2).trans rfl
  have x3 : W1.cell? ⟨w.heap.size, 3, none⟩ = some (.slice A3 L.length c3) := (blk_cell hbx 3).trans rfl
  have HOK := Aside0.mk (fun e : bnf_mayB toks look o L = 0 => bnf_may_ok e)
  have HF := Aside0.mk (show ∀ q : Int, bnf_mayB toks look o L = q → (q = 0 ∧ r2i = 0 ∧ growG is (occ 0 L) L (L.length + o.length * (occ 0 L).length + 1) (List.replicate o.length false) (upTo L.length) = some r1) ∨ (q ≠ 0 ∧ r1 = [] ∧ r2i = q) from by
    intro q hq
    unfold empty_marksF at h
    rw [hq] at h
    by_cases e : q = 0
    · rw [if_pos e] at h
      obtain ⟨m, h1, h2⟩ := Option.map_eq_some_iff.1 h
      simp only [Prod.mk.injEq] at h2
      exact .inl ⟨e, h2.2.symm, by rw [h1, h2.1]⟩
    · rw [if_neg e] at h
      simp only [Option.some.injEq, Prod.mk.injEq] at h
      exact .inr ⟨e, h.1.symm, h.2.symm⟩)
  clear r2 r3 his hb1 hbx h HH
  generalize hq : bnf_mayB toks look o L = q at HM HOK
  have HQ := HF.out q hq
  have HQ := Aside0.mk HQ
  clear HF hq
  go_enter Try.func42, Try.ntmps42
  go_wp2_with fail
  rw [← hW1]
  clear hW1
  refine (HM.out _ HB1.out).mono ?_
  rintro e w1 ⟨rfl, hb2⟩
  have HB2 := Aside0.mk (below_step HB1.out hb2)
  have y0 := pw_cell_below hb2 x0
  have y1 := pw_cell_below hb2 x1
  have y2 := pw_cell_below hb2 x2
  have y3 := pw_cell_below hb2 x3
  clear x0 x1 x2 x3 hb2 HBX HM
  rcases HQ.out with ⟨rfl, rfl, hG⟩ | ⟨hq0, rfl, rfl⟩
  · have HG := Aside0.mk hG
    have hk := HOK.out rfl
    have hlen : (occ 0 L).length ≤ 1000000000 := by
      have := occ_len L 0 (fun p hp => (hk.2.2.2 p hp).1)
      omega
    have HA := Aside0.mk (empty_asks_calls toks look A2 c2 o A3 c3 L w1 (Kd.C_below HR2.out HB2.out) l2 (Kd.C_below HR3.out HB2.out) l3 (fun p hp s hs ht => by
      have := (hk.2.2.2 p hp).2.2.2 s hs ht
      omega) hlen)
    have HK := Aside0.mk hk
    have HLN := Aside0.mk hlen
    clear hG hk hlen HQ HOK
    go_wp2_with fail
    refine HA.out.mono ?_
    rintro e w2 ⟨gw, rfl, hwho, hb3, _⟩
    have HB3 := Aside0.mk (below_step HB2.out hb3)
    have HWH := Aside0.mk hwho
    have HGR := Aside0.mk (empty_grow_calls toks look A2 c2 o A3 c3 L gw g lb is w2 (Kd.C_below HR2.out HB3.out) l2 (Kd.C_below HR3.out HB3.out) l3 hwho HLN.out (fun p hp => ⟨(HK.out.2.2.2 p hp).2.1, (HK.out.2.2.2 p hp).2.2.1, fun s hs => (HK.out.2.2.2 p hp).2.2.2 s hs⟩)
      (by have := HK.out.2.1; omega) (by have := HK.out.2.2.1; omega) (HIS.out _ _) eg _ _ HG.out)
    clear hwho hb3 HA
    go_wp2_with fail
    refine HGR.out.mono ?_
    rintro e w3 ⟨v, rfl, hr, hb4⟩
    have HR := Aside0.mk (Kd.R_lower hr HB3.out.size)
    have HB4 := Aside0.mk (below_step HB3.out hb4)
    clear hr hb4 HGR
    go_wp2_with fail
    go_ret2
    exact ⟨_, rfl, HR.out, HB4.out⟩
  · have e1 : (r2i != 0) = true := bne_iff_ne.mpr hq0
    have e2 : decide (r2i ≠ 0) = true := decide_eq_true hq0
    clear HQ hq0
    go_wp2_with fail
    go_ret2
    exact ⟨_, rfl, Kd.R_nil _ _ _ _ _, HB2.out⟩


/-! ### empty_Nothing_1: function 43 -/
def isNothing (s : S59) (m : List Bool) : Bool := !s.f0 && rdOf false m s.f1
set_option maxHeartbeats 2000000 in
theorem empty_nothing1 (n : Nat) (w : World) : IsK 43 #[] isNothing n w := by
  intro W s m A c hb hs hn hC hc
  obtain ⟨tok, x⟩ := s
  show Calls Try.prog 43 #[.agg #[.bool tok, .int .i64 x], .slice A m.length c] W fun e w' => e = .returned (.bool (!tok && rdOf false m x)) ∧ Below W.heap.size W w'
  cases tok with
  | true =>
    clear hC
    go_enter Try.func43, Try.ntmps43
    go_wp2_with fail
    go_ret
    exact ⟨rfl, below_alloc (Below.refl _ _) _⟩
  | false =>
    obtain ⟨x0, x1⟩ := hs rfl
    obtain ⟨ad, hA, hx⟩ := Kd.at_bool hC x x0 (by show x < (m.length : Int); rw [hn]; exact x1)
    subst hA
    have x1' : x < (m.length : Int) := by rw [hn]; exact x1
    have hx0 : (0 : Int) ≤ x := x0
    have hnew := World.block_lt_of_cell? W _ hx
    clear hC x1 hn hs
    have hx' := hx
    generalize rdOf false m x = q at hx hx'
    go_enter Try.func43, Try.ntmps43
    go_wp2_with fail
    go_ret
    exact ⟨by simp, below_alloc (Below.refl _ _) _⟩


/-! ### empty_Nothing: function 16 -/
def empty_Nothing.f (a0 a1 : Int) (l2 : List Int) (l3 : List S51) : Option (List Bool × Int) := empty_marksF isNothing a0 a1 l2 l3
set_option maxHeartbeats 2000000 in
theorem empty_Nothing.calls (toks look : Int) (A2 : Option Addr) (c2 : Nat) (o : List Int) (A3 : Option Addr) (c3 : Nat) (L : List S51) (r1 : List Bool) (r2i : Int) (w : World)
    (r2 : Kd.C (Kd.int .i64) w A2 o.length o) (l2 : o.length ≤ c2) (r3 : Kd.C k51 w A3 L.length L) (l3 : L.length ≤ c3) (h : empty_Nothing.f toks look o L = some (r1, r2i)) :
    Calls Try.prog 16 #[.agg #[.int .i64 toks, .int .i64 look, .slice A2 o.length c2, .slice A3 L.length c3]] w fun e w' => ∃ v0_ : Value, e = .returned (.tuple #[v0_, .int .i64 r2i]) ∧ Kd.R Kd.bool 4 w' w.heap.size (fun _ => True) v0_ r1 ∧ Below w.heap.size w w' := by
  have HM0 := fun (W : World) (hb : Below w.heap.size w W) => empty_marks_calls toks look A2 c2 o A3 c3 L 43 #[] isNothing r1 r2i W (Kd.C_below r2 hb) l2 (Kd.C_below r3 hb) l3 (fun n W => empty_nothing1 n W) (fun args w => enters_ Try.func43 (by kernel_rfl) rfl args w) h
  have HM := Aside0.mk HM0
  clear r2 r3 h HM0
  go_enter Try.func16, Try.ntmps16
  go_wp2_with fail
  refine (HM.out _ (below_alloc (Below.refl _ _) _)).mono ?_
  rintro e w1 ⟨v, rfl, hr, hb⟩
  have HR := Aside0.mk (Kd.R_lower hr (below_size (below_alloc (Below.refl _ _) _)))
  have HB := Aside0.mk (below_step (below_alloc (Below.refl _ _) _) hb)
  clear hr hb HM
  go_wp2_with fail
  go_ret2
  exact ⟨_, rfl, HR.out, HB.out⟩


/-! ### gramaryelaw10_sample: function 41 -/
def gramaryelaw10_sample.f  : Option (Int × Int × List Int × (List (S51))) := some (1, 1, (([(-1)] : List Int)), (([(⟨0, (([(⟨true, 1⟩ : S59), (⟨false, 0⟩ : S59)] : List (S59)))⟩ : S51), (⟨0, ([] : List (S59))⟩ : S51)] : List (S51))))
set_option maxHeartbeats 8000000 in
set_option maxRecDepth 100000 in
theorem gramaryelaw10_sample.calls  (r1 : Int) (r2 : Int) (r3 : List Int) (r4 : List (S51)) (w : World) (h : gramaryelaw10_sample.f  = some (r1, r2, r3, r4)) :
    Calls Try.prog 41 #[] w fun e w' => ∃ v2_ v3_ : Value, e = .returned (.agg #[.int .i64 r1, .int .i64 r2, v2_, v3_]) ∧ Kd.R (Kd.int .i64) 3 w' w.heap.size (fun k_ => (w.heap.size ≤ k_)) v2_ r3 ∧ Kd.N k51 51 w' w.heap.size (fun k_ => (w.heap.size ≤ k_) ∧ some k_ ≠ (v2_ : Value).ownBlock) v3_ r4 ∧ Below w.heap.size w w' := by
  have hu25 := Try.underlying25
  have hu59 := Try.underlying59
  have hu51 := Try.underlying51
  have HB := Aside0.mk (Below.refl w.heap.size w)
  have H : (some (1, 1, (([(-1)] : List Int)), (([(⟨0, (([(⟨true, 1⟩ : S59), (⟨false, 0⟩ : S59)] : List (S59)))⟩ : S51), (⟨0, ([] : List (S59))⟩ : S51)] : List (S51))))) = some (r1, r2, r3, r4) := h
  clear h
  obtain ⟨y148, hy148⟩ : ∃ y_ : List Int, y_ = (([(-1)] : List Int)) := ⟨_, rfl⟩
  replace H : (some (1, 1, y148, (([(⟨0, (([(⟨true, 1⟩ : S59), (⟨false, 0⟩ : S59)] : List (S59)))⟩ : S51), (⟨0, ([] : List (S59))⟩ : S51)] : List (S51))))) = some (r1, r2, r3, r4) := by first | (rw [hy148]; with_reducible exact H) | (have H2_ := (Option.bind_some _ _).symm.trans H; rw [hy148]; with_reducible exact H2_) | (have H2_ := (Option.bind_some _ _).symm.trans H; with_reducible exact H2_) | with_reducible exact H | (rw [hy148]; exact H) | exact H
  have Ny148 := Aside0.mk hy148
  clear hy148
  obtain ⟨y151, hy151⟩ : ∃ y_ : List (S59), y_ = (([(⟨true, 1⟩ : S59), (⟨false, 0⟩ : S59)] : List (S59))) := ⟨_, rfl⟩
  replace H : (some (1, 1, y148, (([(⟨0, y151⟩ : S51), (⟨0, ([] : List (S59))⟩ : S51)] : List (S51))))) = some (r1, r2, r3, r4) := by first | (rw [hy151]; with_reducible exact H) | (have H2_ := (Option.bind_some _ _).symm.trans H; rw [hy151]; with_reducible exact H2_) | (have H2_ := (Option.bind_some _ _).symm.trans H; with_reducible exact H2_) | with_reducible exact H | (rw [hy151]; exact H) | exact H
  have Ny151 := Aside0.mk hy151
  clear hy151
  obtain ⟨y154, hy154⟩ : ∃ y_ : List (S51), y_ = (([(⟨0, y151⟩ : S51), (⟨0, ([] : List (S59))⟩ : S51)] : List (S51))) := ⟨_, rfl⟩
  replace H : (some (1, 1, y148, y154)) = some (r1, r2, r3, r4) := by first | (rw [hy154]; with_reducible exact H) | (have H2_ := (Option.bind_some _ _).symm.trans H; rw [hy154]; with_reducible exact H2_) | (have H2_ := (Option.bind_some _ _).symm.trans H; with_reducible exact H2_) | with_reducible exact H | (rw [hy154]; exact H) | exact H
  have Ny154 := Aside0.mk hy154
  clear hy154
  simp only [Option.some.injEq, Prod.mk.injEq] at H
  obtain ⟨rfl, rfl, rfl, rfl⟩ := H
  go_enter Try.func41, Try.ntmps41
  go_wp2_with (first | ((with_reducible refine gate_dst (N := 0) rfl ?_); refine box_event ?hg (N := 0) ?hd (cs := #[.int .i64 0, .int .i64 0, .slice none 0 0, .slice none 0 0]) (t := 25) ?hr ?_; (case hd => rfl); (case hg => rfl); (case hr => first | (go_simp; done) | (go_simp; rfl)); intro gb147 hg w1 hbox hb; have n0_ := Aside0.mk (below_step (by repeat (first | (with_reducible first | exact HB.out | apply below_alloc | apply pw_below_drewN | apply below_drew1) | exact HB.out)) hb); have n1_ := Aside0.mk (hbox); have n2_ := Aside0.mk ((by rw [hg]; exact (below_size (by repeat (first | (with_reducible first | exact HB.out | apply below_alloc | apply pw_below_drewN | apply below_drew1) | exact HB.out))) : w.heap.size ≤ gb147)); have n3_ := Aside0.mk ((by rw [hg]; exact (below_size (by repeat (first | (with_reducible first | exact HB.out | apply below_alloc | apply pw_below_drewN | apply below_drew1) | exact HB.out))) : w.heap.size ≤ gb147)); clear HB; have HB := n0_; have BK147 := n1_; have GW147 := n2_; have GE147 := n3_; clear n0_ n1_ n2_ n3_; clear hb hbox hg) | ((with_reducible refine gate_dst (N := 1) rfl ?_); refine Kd.R_lit (Kd.int .i64) _ 3 ?hg (N := 1) ?hd (xs := ([(-1)] : List Int)) (inner := [.int .i64 (-1)]) (ok := fun _ => True) (okp := fun _ => True) ?hr ?hp (fun _ hk => hk) trivial (Below.refl _ _) (Nat.le_refl _) (by simp) ?_; (case hd => rfl); (case hg => rfl); (case hr => first | (go_simp; done) | (go_simp; rfl)); (case hp => exact (Reps.one (show Kd.M (Kd.int .i64) _ _ _ (-1) [.int .i64 (-1)] from rfl) (Reps.none _ _))); intro v149 w2 ho3 hb hg_ hnew_; clear hg_ hnew_; (first | rw [← Ny148.out] at ho3 | (simp only [Int.reduceToNat] at ho3; rw [← Ny148.out] at ho3)); have n0_ := Aside0.mk (Kd.R_lower (Kd.R_newM (M := fun k_ => (w.heap.size ≤ k_)) ho3 (below_size (by repeat (first | (with_reducible first | exact HB.out | apply below_alloc | apply pw_below_drewN | apply below_drew1 | refine below_set ?_ GE147.out) | exact HB.out))) (fun k_ h_ => h_)) (below_size (by repeat (first | (with_reducible first | exact HB.out | apply below_alloc | apply pw_below_drewN | apply below_drew1 | refine below_set ?_ GE147.out) | exact HB.out)))); have n1_ := Aside0.mk (blk_below (g := gb147) (o := .cells #[.int .i64 0, .int .i64 0, .slice none 0 0, .slice none 0 0] 25 (0, 0)) (by (with_reducible repeat (first | refine blk_drewN ?_ _ | refine blk_drew ?_ | refine blk_alloc ?_ _)); exact BK147.out) hb); have n2_ := Aside0.mk (below_step (by repeat (first | (with_reducible first | exact HB.out | apply below_alloc | apply pw_below_drewN | apply below_drew1 | refine below_set ?_ GE147.out) | exact HB.out)) hb); clear BK147; clear HB; have HO150 := n0_; have BK147 := n1_; have HB := n2_; clear n0_ n1_ n2_; clear hb ho3) | ((with_reducible refine gate_dst (N := 4) rfl ?_); refine Kd.R_lit k59 _ 59 ?hg (N := 4) ?hd (xs := ([(⟨true, 1⟩ : S59), (⟨false, 0⟩ : S59)] : List (S59))) (inner := [.bool true, .int .i64 1, .bool false, .int .i64 0]) (ok := fun _ => True) (okp := fun _ => True) ?hr ?hp (fun _ hk => hk) trivial (Below.refl _ _) (Nat.le_refl _) (by simp) ?_; (case hd => rfl); (case hg => rfl); (case hr => first | (go_simp; done) | (go_simp; rfl)); (case hp => exact (Reps.c2 (show Kd.M k59 _ _ _ (⟨true, 1⟩ : S59) [.bool true, .int .i64 1] from (k59_mkM _ _ _ (⟨true, 1⟩ : S59) )) (Reps.c2 (show Kd.M k59 _ _ _ (⟨false, 0⟩ : S59) [.bool false, .int .i64 0] from (k59_mkM _ _ _ (⟨false, 0⟩ : S59) )) (Reps.none _ _)))); intro v152 w4 ho5 hb hg_ hnew_; clear hg_ hnew_; (first | rw [← Ny151.out] at ho5 | (simp only [Int.reduceToNat] at ho5; rw [← Ny151.out] at ho5)); have n0_ := Aside0.mk (Kd.R_below (by (with_reducible repeat (first | apply Kd.R_alloc | apply Kd.R_drewN | apply Kd.R_drew)); exact HO150.out) hb); have n1_ := Aside0.mk (Kd.R_lower (Kd.R_newM (M := fun k_ => (w.heap.size ≤ k_)) ho5 (below_size (by repeat (first | (with_reducible first | exact HB.out | apply below_alloc | apply pw_below_drewN | apply below_drew1 | refine below_set ?_ GE147.out) | exact HB.out))) (fun k_ h_ => h_)) (below_size (by repeat (first | (with_reducible first | exact HB.out | apply below_alloc | apply pw_below_drewN | apply below_drew1 | refine below_set ?_ GE147.out) | exact HB.out)))); have n2_ := Aside0.mk (blk_below (g := gb147) (o := .cells #[.int .i64 0, .int .i64 0, .slice none 0 0, .slice none 0 0] 25 (0, 0)) (by (with_reducible repeat (first | refine blk_drewN ?_ _ | refine blk_drew ?_ | refine blk_alloc ?_ _)); exact BK147.out) hb); have n3_ := Aside0.mk (below_step (by repeat (first | (with_reducible first | exact HB.out | apply below_alloc | apply pw_below_drewN | apply below_drew1 | refine below_set ?_ GE147.out) | exact HB.out)) hb); clear HO150; clear BK147; clear HB; have HO150 := n0_; have HO153 := n1_; have BK147 := n2_; have HB := n3_; clear n0_ n1_ n2_ n3_; clear hb ho5; obtain ⟨Ao6, co6, eo6⟩ := Kd.R_slice HO153.out; subst eo6) | ((with_reducible refine gate_dst (N := 7) rfl ?_); refine Kd.N_lit k51 _ 51 ?hg (N' := 7) ?hd (xs := ([(⟨0, y151⟩ : S51), (⟨0, ([] : List (S59))⟩ : S51)] : List (S51))) (inner := [.int .i64 0, .slice Ao6 y151.length co6, .int .i64 0, .slice none 0 0]) (ok := (fun k_ => (w.heap.size ≤ k_) ∧ some k_ ≠ (v149 : Value).ownBlock ∧ k_ ≠ gb147)) (okp := (fun k_ => (w.heap.size ≤ k_) ∧ some k_ ≠ (v149 : Value).ownBlock ∧ k_ ≠ gb147)) ?hr ?hp (fun _ hk => hk) ((show ∀ k_, w4.heap.size ≤ k_ → (fun k_ => (w.heap.size ≤ k_) ∧ some k_ ≠ (v149 : Value).ownBlock ∧ k_ ≠ gb147) k_ from fun k_ hk => ⟨(Nat.le_trans (below_size (by repeat (first | (with_reducible first | exact HB.out | apply below_alloc | apply pw_below_drewN | apply below_drew1 | refine below_set ?_ GE147.out) | exact HB.out))) hk), Kd.fresh' (Kd.R_lt (by (with_reducible repeat (first | apply Kd.R_alloc | apply Kd.R_drewN | apply Kd.R_drew)); exact HO150.out)) k_ hk, Kd.freshB (g := gb147) (o := .cells #[.int .i64 0, .int .i64 0, .slice none 0 0, .slice none 0 0] 25 (0, 0)) (by (with_reducible repeat (first | refine blk_drewN ?_ _ | refine blk_drew ?_ | refine blk_alloc ?_ _)); exact BK147.out) k_ hk⟩) _ (Nat.le_refl _)) (Below.refl _ _) (Nat.le_refl _) (by simp) ?_; (case hd => rfl); (case hg => rfl); (case hr => first | (go_simp; done) | (go_simp; rfl)); (case hp => exact (Reps.c2 (show Kd.FK k51 _ _ (⟨0, y151⟩ : S51) [.int .i64 0, .slice Ao6 y151.length co6] from (k51_mkF _ _ (⟨0, y151⟩ : S51) (Kd.R_reads' (Kd.R_mono (ok' := (fun k_ => (w.heap.size ≤ k_) ∧ some k_ ≠ (v149 : Value).ownBlock ∧ k_ ≠ gb147)) (Kd.R_types (Kd.R_apart' (HO153.out) (Kd.R_typed HO150.out) (by decide)) BK147.out (by decide)) (fun k_ hk => ⟨hk.1.1.1, ⟨hk.1.2, hk.2⟩⟩))).2.1 (Kd.R_F (Kd.R_mono (ok' := (fun k_ => (w.heap.size ≤ k_) ∧ some k_ ≠ (v149 : Value).ownBlock ∧ k_ ≠ gb147)) (Kd.R_types (Kd.R_apart' (HO153.out) (Kd.R_typed HO150.out) (by decide)) BK147.out (by decide)) (fun k_ hk => ⟨hk.1.1.1, ⟨hk.1.2, hk.2⟩⟩))))) (Reps.c2 (show Kd.FK k51 _ _ (⟨0, ([] : List (S59))⟩ : S51) [.int .i64 0, .slice none 0 0] from (k51_mkF _ _ (⟨0, ([] : List (S59))⟩ : S51) (Nat.le_refl _) (Kd.F_nil _ _ _))) (Reps.none _ _)))); intro v155 w7 ho8 hb hg_ hnew_; clear hg_ hnew_; (first | rw [← Ny154.out] at ho8 | (simp only [Int.reduceToNat] at ho8; rw [← Ny154.out] at ho8)); have n0_ := Aside0.mk (Kd.R_below (by (with_reducible repeat (first | apply Kd.R_alloc | apply Kd.R_drewN | apply Kd.R_drew)); exact HO150.out) hb); have n1_ := Aside0.mk (Kd.N_lower ho8 (below_size (by repeat (first | (with_reducible first | exact HB.out | apply below_alloc | apply pw_below_drewN | apply below_drew1 | refine below_set ?_ GE147.out) | exact HB.out)))); have n2_ := Aside0.mk (blk_below (g := gb147) (o := .cells #[.int .i64 0, .int .i64 0, .slice none 0 0, .slice none 0 0] 25 (0, 0)) (by (with_reducible repeat (first | refine blk_drewN ?_ _ | refine blk_drew ?_ | refine blk_alloc ?_ _)); exact BK147.out) hb); have n3_ := Aside0.mk (below_step (by repeat (first | (with_reducible first | exact HB.out | apply below_alloc | apply pw_below_drewN | apply below_drew1 | refine below_set ?_ GE147.out) | exact HB.out)) hb); clear HO150; clear BK147; clear HB; clear HO153; have HO150 := n0_; have HO156 := n1_; have BK147 := n2_; have HB := n3_; clear n0_ n1_ n2_ n3_; clear hb ho8; obtain ⟨Ao9, co9, eo9⟩ := Kd.N_slice HO156.out; subst eo9; obtain ⟨Ao10, co10, eo10⟩ := Kd.R_slice HO150.out; subst eo10; have hcz11_0 : w7.cell? ⟨gb147, 0, none⟩ = some (.int .i64 0) := (blk_cell BK147.out 0).trans rfl; have hcz11_1 : w7.cell? ⟨gb147, 1, none⟩ = some (.int .i64 0) := (blk_cell BK147.out 1).trans rfl; have hcz11_2 : w7.cell? ⟨gb147, 2, none⟩ = some (.slice none 0 0) := (blk_cell BK147.out 2).trans rfl; have hcz11_3 : w7.cell? ⟨gb147, 3, none⟩ = some (.slice none 0 0) := (blk_cell BK147.out 3).trans rfl; have hfz11_0 := blk_frozen BK147.out 0; have hfz11_1 := blk_frozen BK147.out 1; have hfz11_2 := blk_frozen BK147.out 2; have hfz11_3 := blk_frozen BK147.out 3))
  refine bodyPost_ret (results_cell_row rfl _ _ gb147 25 #[.int .i64 1, .int .i64 1, .slice Ao10 y148.length co10, .slice Ao9 y154.length co9] (0, 0) _ rfl (by (with_reducible repeat (first | refine blk_drewN ?_ _ | refine blk_drew ?_ | refine blk_alloc ?_ _)); refine blk_put (cs := #[.int .i64 1, .int .i64 1, .slice Ao10 y148.length co10, .slice none 0 0]) ?_ 3 _ rfl; (with_reducible repeat (first | refine blk_drewN ?_ _ | refine blk_drew ?_ | refine blk_alloc ?_ _)); refine blk_put (cs := #[.int .i64 1, .int .i64 1, .slice none 0 0, .slice none 0 0]) ?_ 2 _ rfl; (with_reducible repeat (first | refine blk_drewN ?_ _ | refine blk_drew ?_ | refine blk_alloc ?_ _)); refine blk_put (cs := #[.int .i64 1, .int .i64 0, .slice none 0 0, .slice none 0 0]) ?_ 1 _ rfl; (with_reducible repeat (first | refine blk_drewN ?_ _ | refine blk_drew ?_ | refine blk_alloc ?_ _)); refine blk_put (cs := #[.int .i64 0, .int .i64 0, .slice none 0 0, .slice none 0 0]) ?_ 0 _ rfl; (with_reducible repeat (first | refine blk_drewN ?_ _ | refine blk_drew ?_ | refine blk_alloc ?_ _)); exact BK147.out) Try.underlying25 rfl (by kernel_rfl)) rfl ?_
  exact ⟨_, _, by first | rfl | (simp [errW_none, errW_some] <;> rfl) | (simp [*, errW_none, errW_some] <;> rfl), by (with_reducible repeat (first | apply Kd.R_alloc | apply Kd.R_drewN | apply Kd.R_drew)); exact Kd.R_mono (Kd.R_far (p := ⟨gb147, 3, none⟩) (Kd.R_far (p := ⟨gb147, 2, none⟩) (Kd.R_far (p := ⟨gb147, 1, none⟩) (Kd.R_far (p := ⟨gb147, 0, none⟩) (Kd.R_types HO150.out BK147.out (by decide)) (fun _ hk => hk.2) (.int .i64 1)) (fun _ hk => hk.2) (.int .i64 1)) (fun _ hk => hk.2) (.slice Ao10 y148.length co10)) (fun _ hk => hk.2) (.slice Ao9 y154.length co9)) (fun _ hk => hk.1.1), by (with_reducible repeat (first | apply Kd.N_alloc | apply Kd.N_drewN | apply Kd.N_drew)); exact Kd.N_mono (Kd.N_far (p := ⟨gb147, 3, none⟩) (Kd.N_far (p := ⟨gb147, 2, none⟩) (Kd.N_far (p := ⟨gb147, 1, none⟩) (Kd.N_far (p := ⟨gb147, 0, none⟩) (Kd.N_mono HO156.out (fun k_ hk => (⟨hk, hk.2.2⟩ : _ ∧ k_ ≠ gb147))) (fun _ hk => hk.2) (.int .i64 1)) (fun _ hk => hk.2) (.int .i64 1)) (fun _ hk => hk.2) (.slice Ao10 y148.length co10)) (fun _ hk => hk.2) (.slice Ao9 y154.length co9)) (fun _ hk => ⟨hk.1.1, hk.1.2.1⟩), by repeat (first | (with_reducible first | exact HB.out | apply below_alloc | apply pw_below_drewN | apply below_drew1 | refine below_set ?_ GE147.out) | exact HB.out)⟩

/-! ### gramaryelaw10_works: function 13 -/
def gramaryelaw10_works.f (k : Nat)  : Option (Bool) := (gramaryelaw10_sample.f).bind fun bt157 => ((empty_Nothing.f bt157.1 bt157.2.1 bt157.2.2.1 bt157.2.2.2).bind fun bt165 => ((gramaryelaw10_sample.f).bind fun bt169 => ((empty_Least.f bt169.1 bt169.2.1 bt169.2.2.1 bt169.2.2.2).bind fun bt177 => (if bt165.2 = 0 then (if bt177.2 = 0 then (if (bt165.1.length : Int) = 1 then (if 0 < (bt165.1.length : Int) then (if rdOf false bt165.1 0 = true then ((gramaryebase_SameInts.f k bt177.1 (([0] : List Int))).bind fun t185 => (some t185)) else (some false)) else (none)) else (some false)) else (some false)) else (some false)))))
theorem gramaryelaw10_works.mono : ∀ k, LeO (gramaryelaw10_works.f k ) (gramaryelaw10_works.f (k + 1) ) := by
  intro  k
  unfold gramaryelaw10_works.f
  repeat' first
      | (with_reducible exact gramaryebase_SameInts.mono _ _ _)
      | (with_reducible exact LeO.refl _)
      | (with_reducible exact LeO.none _)
      | (with_reducible refine LeO.ite ?_ ?_)
      | (with_reducible refine LeO.bind ?_ (fun _ => ?_))
      | exact gramaryebase_SameInts.mono _ _ _
      | exact LeO.none _
      | refine LeO.ite ?_ ?_
      | refine LeO.bind ?_ (fun _ => ?_)
set_option maxHeartbeats 8000000 in
set_option maxRecDepth 100000 in
theorem gramaryelaw10_works.calls (k : Nat)  (r : Bool) (w : World) (h : gramaryelaw10_works.f k  = some r) :
    Calls Try.prog 13 #[] w fun e w' => e = .returned (.bool r) ∧ Below w.heap.size w w' := by
  have HB := Aside0.mk (Below.refl w.heap.size w)
  have H : ((gramaryelaw10_sample.f).bind fun bt157 => ((empty_Nothing.f bt157.1 bt157.2.1 bt157.2.2.1 bt157.2.2.2).bind fun bt165 => ((gramaryelaw10_sample.f).bind fun bt169 => ((empty_Least.f bt169.1 bt169.2.1 bt169.2.2.1 bt169.2.2.2).bind fun bt177 => (if bt165.2 = 0 then (if bt177.2 = 0 then (if (bt165.1.length : Int) = 1 then (if 0 < (bt165.1.length : Int) then (if rdOf false bt165.1 0 = true then ((gramaryebase_SameInts.f k bt177.1 (([0] : List Int))).bind fun t185 => (some t185)) else (some false)) else (none)) else (some false)) else (some false)) else (some false)))))) = some r := h
  clear h
  replace H := Option.bind_eq_some_iff.mp H
  obtain ⟨⟨t157, t158, t159, t162⟩, A10, H⟩ := H
  replace H : ((empty_Nothing.f t157 t158 t159 t162).bind fun bt165 => ((gramaryelaw10_sample.f).bind fun bt169 => ((empty_Least.f bt169.1 bt169.2.1 bt169.2.2.1 bt169.2.2.2).bind fun bt177 => (if bt165.2 = 0 then (if bt177.2 = 0 then (if (bt165.1.length : Int) = 1 then (if 0 < (bt165.1.length : Int) then (if rdOf false bt165.1 0 = true then ((gramaryebase_SameInts.f k bt177.1 (([0] : List Int))).bind fun t185 => (some t185)) else (some false)) else (none)) else (some false)) else (some false)) else (some false))))) = some r := H
  have A1 := Aside0.mk A10
  clear A10
  replace H := Option.bind_eq_some_iff.mp H
  obtain ⟨⟨t165, t168⟩, A20, H⟩ := H
  replace H : ((gramaryelaw10_sample.f).bind fun bt169 => ((empty_Least.f bt169.1 bt169.2.1 bt169.2.2.1 bt169.2.2.2).bind fun bt177 => (if t168 = 0 then (if bt177.2 = 0 then (if (t165.length : Int) = 1 then (if 0 < (t165.length : Int) then (if rdOf false t165 0 = true then ((gramaryebase_SameInts.f k bt177.1 (([0] : List Int))).bind fun t185 => (some t185)) else (some false)) else (none)) else (some false)) else (some false)) else (some false)))) = some r := H
  have A2 := Aside0.mk A20
  clear A20
  replace H := Option.bind_eq_some_iff.mp H
  obtain ⟨⟨t169, t170, t171, t174⟩, A30, H⟩ := H
  replace H : ((empty_Least.f t169 t170 t171 t174).bind fun bt177 => (if t168 = 0 then (if bt177.2 = 0 then (if (t165.length : Int) = 1 then (if 0 < (t165.length : Int) then (if rdOf false t165 0 = true then ((gramaryebase_SameInts.f k bt177.1 (([0] : List Int))).bind fun t185 => (some t185)) else (some false)) else (none)) else (some false)) else (some false)) else (some false))) = some r := H
  have A3 := Aside0.mk A30
  clear A30
  replace H := Option.bind_eq_some_iff.mp H
  obtain ⟨⟨t177, t180⟩, A40, H⟩ := H
  replace H : (if t168 = 0 then (if t180 = 0 then (if (t165.length : Int) = 1 then (if 0 < (t165.length : Int) then (if rdOf false t165 0 = true then ((gramaryebase_SameInts.f k t177 (([0] : List Int))).bind fun t185 => (some t185)) else (some false)) else (none)) else (some false)) else (some false)) else (some false)) = some r := H
  have A4 := Aside0.mk A40
  clear A40
  by_cases c5 : t168 = 0
  · rw [if_pos c5] at H
    have c5b0 : (t168 == 0) = true := beq_iff_eq.mpr c5
    have c5b1 : (t168 != 0) = false := bne_eq_false_iff_eq.mpr c5
    clear c5
    by_cases c6 : t180 = 0
    · rw [if_pos c6] at H
      have c6b0 : (t180 == 0) = true := beq_iff_eq.mpr c6
      have c6b1 : (t180 != 0) = false := bne_eq_false_iff_eq.mpr c6
      clear c6
      by_cases c7 : (t165.length : Int) = 1
      · rw [if_pos c7] at H
        have c7b0 : ((t165.length : Int) == 1) = true := beq_iff_eq.mpr c7
        have c7b1 : ((t165.length : Int) != 1) = false := bne_eq_false_iff_eq.mpr c7
        clear c7
        by_cases c8 : 0 < (t165.length : Int)
        · rw [if_pos c8] at H
          have c8b0 : decide (0 < (t165.length : Int)) = true := decide_eq_true c8
          have c8b1 : decide (0 < t165.length) = true := decide_eq_true (by omega)
          clear c8
          obtain ⟨bq9, hbq9⟩ : ∃ b_ : Bool, b_ = (rdOf false t165 0) := ⟨_, rfl⟩
          replace H : (if bq9 = true then ((gramaryebase_SameInts.f k t177 (([0] : List Int))).bind fun t185 => (some t185)) else (some false)) = some r := by rw [← hbq9] at H; exact H
          have Nbq9 := Aside0.mk hbq9
          clear hbq9
          by_cases c10 : bq9 = true
          · subst c10
            have H1 : ((gramaryebase_SameInts.f k t177 (([0] : List Int))).bind fun t185 => (some t185)) = some r := by rw [if_pos rfl] at H; exact H
            clear H
            have H := H1
            clear H1
            obtain ⟨y182, hy182⟩ : ∃ y_ : List Int, y_ = (([0] : List Int)) := ⟨_, rfl⟩
            replace H : ((gramaryebase_SameInts.f k t177 y182).bind fun t185 => (some t185)) = some r := by first | (rw [hy182]; with_reducible exact H) | (have H2_ := (Option.bind_some _ _).symm.trans H; rw [hy182]; with_reducible exact H2_) | (have H2_ := (Option.bind_some _ _).symm.trans H; with_reducible exact H2_) | with_reducible exact H | (rw [hy182]; exact H) | exact H
            have Ny182 := Aside0.mk hy182
            clear hy182
            replace H := Option.bind_eq_some_iff.mp H
            obtain ⟨t185, A110, H⟩ := H
            replace H : (some t185) = some r := H
            have A11 := Aside0.mk A110
            clear A110
            obtain rfl := Option.some.inj H
            go_enter Try.func13, Try.ntmps13
            go_wp2_with (first | ((with_reducible refine gate_callee (f := 41) rfl ?_); refine goesL_ (some 6) rfl rfl Try.func41 (by kernel_rfl) rfl #[] rfl (by (try simp only [List.map_toArray, List.map_cons, List.map_nil]); first | done | rfl | (simp only [List.length_drop, List.length_take]; rfl)) ?_; (with_reducible refine (gramaryelaw10_sample.calls  t157 t158 t159 t162 _ A1.out).mono ?_); rintro e w12 ⟨v160, v163, rfl, ho0, ho1, hb⟩; refine ⟨_, rfl, ?_⟩; have n0_ := Aside0.mk (Kd.R_lower (Kd.R_mono (ok' := fun k_ => True) ho0 (fun _ hk_ => trivial)) (below_size (by repeat (first | (with_reducible first | exact HB.out | apply below_alloc | apply pw_below_drewN | apply below_drew1) | exact HB.out)))); have n1_ := Aside0.mk (Kd.N_lower (Kd.N_mono (ok' := fun k_ => some k_ ≠ (v160 : Value).ownBlock) ho1 (fun k_ hk_ => hk_.2)) (below_size (by repeat (first | (with_reducible first | exact HB.out | apply below_alloc | apply pw_below_drewN | apply below_drew1) | exact HB.out)))); have n2_ := Aside0.mk (below_step (by repeat (first | (with_reducible first | exact HB.out | apply below_alloc | apply pw_below_drewN | apply below_drew1) | exact HB.out)) hb); clear HB; have HO161 := n0_; have HO164 := n1_; have HB := n2_; clear n0_ n1_ n2_; (try clear hb); (try clear hb2); (try clear hk); (try clear hi); (try clear ho0); (try clear ho1); obtain ⟨Ao13, co13, eo13⟩ := Kd.R_slice HO161.out; subst eo13; obtain ⟨Ao14, co14, eo14⟩ := Kd.N_slice HO164.out; subst eo14) | ((with_reducible refine gate_callee (f := 16) rfl ?_); refine goesL_ (some 7) rfl rfl Try.func16 (by kernel_rfl) rfl #[.agg #[.int .i64 t157, .int .i64 t158, .slice Ao13 t159.length co13, .slice Ao14 t162.length co14]] rfl (by (try simp only [List.map_toArray, List.map_cons, List.map_nil]); first | done | rfl | (simp only [List.length_drop, List.length_take]; rfl)) ?_; (with_reducible refine (empty_Nothing.calls t157 t158 _ _ t159 _ _ t162 t165 t168 _ ?side1 ?side2 ?side3 ?side4 A2.out).mono ?_); (case side1 => repeat (first | exact (Kd.R_reads' HO161.out).2.2 | (with_reducible refine Kd.C_alloc ?_ _) | (with_reducible refine Kd.C_drewN ?_ _) | (with_reducible refine Kd.C_drew ?_))); (case side2 => exact (Kd.R_reads' HO161.out).2.1); (case side3 => repeat (first | exact (Kd.N_reads' HO164.out).2.2 | (with_reducible refine Kd.C_alloc ?_ _) | (with_reducible refine Kd.C_drewN ?_ _) | (with_reducible refine Kd.C_drew ?_))); (case side4 => exact (Kd.N_reads' HO164.out).2.1); rintro e w15 ⟨v166, rfl, ho0, hb⟩; refine ⟨_, rfl, ?_⟩; have n0_ := Aside0.mk (Kd.R_below (by (with_reducible repeat (first | apply Kd.R_alloc | apply Kd.R_drewN | apply Kd.R_drew)); exact HO161.out) hb); have n1_ := Aside0.mk (Kd.N_elder' (by (with_reducible repeat (first | apply Kd.N_alloc | apply Kd.N_drewN | apply Kd.N_drew)); exact HO164.out) (Kd.R_base ho0) hb); have n2_ := Aside0.mk (Kd.R_lower ho0 (below_size (by repeat (first | (with_reducible first | exact HB.out | apply below_alloc | apply pw_below_drewN | apply below_drew1) | exact HB.out)))); have n3_ := Aside0.mk (below_step (by repeat (first | (with_reducible first | exact HB.out | apply below_alloc | apply pw_below_drewN | apply below_drew1) | exact HB.out)) hb); clear HO161; clear HO164; clear HB; have HO161 := n0_; have HO164 := n1_; have HO167 := n2_; have HB := n3_; clear n0_ n1_ n2_ n3_; (try clear hb); (try clear hb2); (try clear hk); (try clear hi); (try clear ho0)) | ((with_reducible refine gate_callee (f := 41) rfl ?_); refine goesL_ (some 11) rfl rfl Try.func41 (by kernel_rfl) rfl #[] rfl (by (try simp only [List.map_toArray, List.map_cons, List.map_nil]); first | done | rfl | (simp only [List.length_drop, List.length_take]; rfl)) ?_; (with_reducible refine (gramaryelaw10_sample.calls  t169 t170 t171 t174 _ A3.out).mono ?_); rintro e w16 ⟨v172, v175, rfl, ho0, ho1, hb⟩; refine ⟨_, rfl, ?_⟩; have n0_ := Aside0.mk (Kd.R_elder' (by (with_reducible repeat (first | apply Kd.R_alloc | apply Kd.R_drewN | apply Kd.R_drew)); exact HO161.out) (Kd.R_base ho0) hb); have n1_ := Aside0.mk (Kd.N_mono (Kd.N_told (Kd.N_told (Kd.N_old (by (with_reducible repeat (first | apply Kd.N_alloc | apply Kd.N_drewN | apply Kd.N_drew)); exact HO164.out) hb) (Kd.R_base ho0)) (Kd.N_base ho1)) (fun _ h_ => h_.1)); have n2_ := Aside0.mk (Kd.R_below (by (with_reducible repeat (first | apply Kd.R_alloc | apply Kd.R_drewN | apply Kd.R_drew)); exact HO167.out) hb); have n3_ := Aside0.mk (Kd.R_lower (Kd.R_new' (Kd.R_mono (ok' := fun k_ => True) ho0 (fun _ hk_ => trivial)) (Kd.R_lt (by (with_reducible repeat (first | apply Kd.R_alloc | apply Kd.R_drewN | apply Kd.R_drew)); exact HO161.out))) (below_size (by repeat (first | (with_reducible first | exact HB.out | apply below_alloc | apply pw_below_drewN | apply below_drew1) | exact HB.out)))); have n4_ := Aside0.mk (Kd.N_lower (Kd.N_mono (ok' := fun k_ => some k_ ≠ (v172 : Value).ownBlock ∧ some k_ ≠ (.slice Ao13 t159.length co13 : Value).ownBlock ∧ some k_ ≠ (.slice Ao14 t162.length co14 : Value).ownBlock ∧ some k_ ≠ (v166 : Value).ownBlock) ho1 (fun k_ hk_ => ⟨hk_.2, (Kd.fresh' (Kd.R_lt (by (with_reducible repeat (first | apply Kd.R_alloc | apply Kd.R_drewN | apply Kd.R_drew)); exact HO161.out)) k_ hk_.1), (Kd.fresh' (Kd.N_lt (by (with_reducible repeat (first | apply Kd.N_alloc | apply Kd.N_drewN | apply Kd.N_drew)); exact HO164.out)) k_ hk_.1), (Kd.fresh' (Kd.R_lt (by (with_reducible repeat (first | apply Kd.R_alloc | apply Kd.R_drewN | apply Kd.R_drew)); exact HO167.out)) k_ hk_.1)⟩)) (below_size (by repeat (first | (with_reducible first | exact HB.out | apply below_alloc | apply pw_below_drewN | apply below_drew1) | exact HB.out)))); have n5_ := Aside0.mk (below_step (by repeat (first | (with_reducible first | exact HB.out | apply below_alloc | apply pw_below_drewN | apply below_drew1) | exact HB.out)) hb); clear HO161; clear HO164; clear HO167; clear HB; have HO161 := n0_; have HO164 := n1_; have HO167 := n2_; have HO173 := n3_; have HO176 := n4_; have HB := n5_; clear n0_ n1_ n2_ n3_ n4_ n5_; (try clear hb); (try clear hb2); (try clear hk); (try clear hi); (try clear ho0); (try clear ho1); obtain ⟨Ao17, co17, eo17⟩ := Kd.R_slice HO173.out; subst eo17; obtain ⟨Ao18, co18, eo18⟩ := Kd.N_slice HO176.out; subst eo18) | ((with_reducible refine gate_callee (f := 11) rfl ?_); refine goesL_ (some 12) rfl rfl Try.func11 (by kernel_rfl) rfl #[.agg #[.int .i64 t169, .int .i64 t170, .slice Ao17 t171.length co17, .slice Ao18 t174.length co18]] rfl (by (try simp only [List.map_toArray, List.map_cons, List.map_nil]); first | done | rfl | (simp only [List.length_drop, List.length_take]; rfl)) ?_; (with_reducible refine (empty_Least.calls t169 t170 _ _ t171 _ _ t174 t177 t180 _ ?side1 ?side2 ?side3 ?side4 A4.out).mono ?_); (case side1 => repeat (first | exact (Kd.R_reads' HO173.out).2.2 | (with_reducible refine Kd.C_alloc ?_ _) | (with_reducible refine Kd.C_drewN ?_ _) | (with_reducible refine Kd.C_drew ?_))); (case side2 => exact (Kd.R_reads' HO173.out).2.1); (case side3 => repeat (first | exact (Kd.N_reads' HO176.out).2.2 | (with_reducible refine Kd.C_alloc ?_ _) | (with_reducible refine Kd.C_drewN ?_ _) | (with_reducible refine Kd.C_drew ?_))); (case side4 => exact (Kd.N_reads' HO176.out).2.1); rintro e w19 ⟨v178, rfl, ho0, hb⟩; refine ⟨_, rfl, ?_⟩; have n0_ := Aside0.mk (Kd.R_elder' (by (with_reducible repeat (first | apply Kd.R_alloc | apply Kd.R_drewN | apply Kd.R_drew)); exact HO161.out) (Kd.R_base ho0) hb); have n1_ := Aside0.mk (Kd.N_elder' (by (with_reducible repeat (first | apply Kd.N_alloc | apply Kd.N_drewN | apply Kd.N_drew)); exact HO164.out) (Kd.R_base ho0) hb); have n2_ := Aside0.mk (Kd.R_below (by (with_reducible repeat (first | apply Kd.R_alloc | apply Kd.R_drewN | apply Kd.R_drew)); exact HO167.out) hb); have n3_ := Aside0.mk (Kd.R_elder' (by (with_reducible repeat (first | apply Kd.R_alloc | apply Kd.R_drewN | apply Kd.R_drew)); exact HO173.out) (Kd.R_base ho0) hb); have n4_ := Aside0.mk (Kd.N_elder' (by (with_reducible repeat (first | apply Kd.N_alloc | apply Kd.N_drewN | apply Kd.N_drew)); exact HO176.out) (Kd.R_base ho0) hb); have n5_ := Aside0.mk (Kd.R_lower (Kd.R_new' (Kd.R_new' ho0 (Kd.R_lt (by (with_reducible repeat (first | apply Kd.R_alloc | apply Kd.R_drewN | apply Kd.R_drew)); exact HO161.out))) (Kd.R_lt (by (with_reducible repeat (first | apply Kd.R_alloc | apply Kd.R_drewN | apply Kd.R_drew)); exact HO173.out))) (below_size (by repeat (first | (with_reducible first | exact HB.out | apply below_alloc | apply pw_below_drewN | apply below_drew1) | exact HB.out)))); have n6_ := Aside0.mk (below_step (by repeat (first | (with_reducible first | exact HB.out | apply below_alloc | apply pw_below_drewN | apply below_drew1) | exact HB.out)) hb); clear HO161; clear HO164; clear HO167; clear HO173; clear HO176; clear HB; have HO161 := n0_; have HO164 := n1_; have HO167 := n2_; have HO173 := n3_; have HO176 := n4_; have HO179 := n5_; have HB := n6_; clear n0_ n1_ n2_ n3_ n4_ n5_ n6_; (try clear hb); (try clear hb2); (try clear hk); (try clear hi); (try clear ho0); obtain ⟨Ao20, co20, eo20⟩ := Kd.R_slice HO167.out; subst eo20; have p181 : 0 ≤ (0 : Int) := (by omega); have q181 : 0 < (t165.length : Int) := of_decide_eq_true (by first | (with_reducible assumption) | assumption); obtain ⟨ad181, e181, hx181_0⟩ := Kd.at_bool (Kd.R_reads' HO167.out).2.2 0 p181 q181; (try rw [← Nbq9.out] at hx181_0); cases e181; have qi181 : (0 < t165.length) = True := eq_true (by omega); (try rw [show ((0 : Int)).toNat = 0 from rfl] at hx181_0); (try rw [Addr.add_zero'] at hx181_0); replace p181 := eq_true p181; replace q181 := eq_true q181) | ((with_reducible refine gate_dst (N := 33) rfl ?_); (try (refine gate_guard (by rfl) ?_; dsimp only)); refine Kd.R_lit (Kd.int .i64) _ 3 ?hg (N := 33) ?hd (xs := ([0] : List Int)) (inner := [.int .i64 0]) (ok := fun _ => True) (okp := fun _ => True) ?hr ?hp (fun _ hk => hk) trivial (Below.refl _ _) (Nat.le_refl _) (by simp) ?_; (case hd => rfl); (case hg => rfl); (case hr => first | (go_simp; done) | (go_simp; rfl)); (case hp => exact (Reps.one (show Kd.M (Kd.int .i64) _ _ _ 0 [.int .i64 0] from rfl) (Reps.none _ _))); intro v183 w21 ho22 hb hg_ hnew_; clear hg_ hnew_; (first | rw [← Ny182.out] at ho22 | (simp only [Int.reduceToNat] at ho22; rw [← Ny182.out] at ho22)); have n0_ := Aside0.mk (Kd.R_elder' (by (with_reducible repeat (first | apply Kd.R_alloc | apply Kd.R_drewN | apply Kd.R_drew)); exact HO161.out) (Kd.R_base ho22) hb); have n1_ := Aside0.mk (Kd.N_elder' (by (with_reducible repeat (first | apply Kd.N_alloc | apply Kd.N_drewN | apply Kd.N_drew)); exact HO164.out) (Kd.R_base ho22) hb); have n2_ := Aside0.mk (Kd.R_below (by (with_reducible repeat (first | apply Kd.R_alloc | apply Kd.R_drewN | apply Kd.R_drew)); exact HO167.out) hb); have n3_ := Aside0.mk (Kd.R_elder' (by (with_reducible repeat (first | apply Kd.R_alloc | apply Kd.R_drewN | apply Kd.R_drew)); exact HO173.out) (Kd.R_base ho22) hb); have n4_ := Aside0.mk (Kd.N_elder' (by (with_reducible repeat (first | apply Kd.N_alloc | apply Kd.N_drewN | apply Kd.N_drew)); exact HO176.out) (Kd.R_base ho22) hb); have n5_ := Aside0.mk (Kd.R_elder' (by (with_reducible repeat (first | apply Kd.R_alloc | apply Kd.R_drewN | apply Kd.R_drew)); exact HO179.out) (Kd.R_base ho22) hb); have n6_ := Aside0.mk (Kd.R_lower (Kd.R_new' (Kd.R_new' (Kd.R_new' ho22 (Kd.R_lt (by (with_reducible repeat (first | apply Kd.R_alloc | apply Kd.R_drewN | apply Kd.R_drew)); exact HO161.out))) (Kd.R_lt (by (with_reducible repeat (first | apply Kd.R_alloc | apply Kd.R_drewN | apply Kd.R_drew)); exact HO173.out))) (Kd.R_lt (by (with_reducible repeat (first | apply Kd.R_alloc | apply Kd.R_drewN | apply Kd.R_drew)); exact HO179.out))) (below_size (by repeat (first | (with_reducible first | exact HB.out | apply below_alloc | apply pw_below_drewN | apply below_drew1) | exact HB.out)))); have n7_ := Aside0.mk (below_step (by repeat (first | (with_reducible first | exact HB.out | apply below_alloc | apply pw_below_drewN | apply below_drew1) | exact HB.out)) hb); clear HO161; clear HO164; clear HO167; clear HO173; clear HO176; clear HO179; clear HB; have HO161 := n0_; have HO164 := n1_; have HO167 := n2_; have HO173 := n3_; have HO176 := n4_; have HO179 := n5_; have HO184 := n6_; have HB := n7_; clear n0_ n1_ n2_ n3_ n4_ n5_ n6_ n7_; clear hb ho22; obtain ⟨Ao23, co23, eo23⟩ := Kd.R_slice HO179.out; subst eo23; obtain ⟨Ao24, co24, eo24⟩ := Kd.R_slice HO184.out; subst eo24) | (go_at_call 14; (with_reducible refine (gramaryebase_SameInts.calls k _ _ t177 _ _ y182 t185 _ ?side1 ?side2 ?side3 ?side4 A11.out).mono ?_); (case side1 => repeat (first | exact (Kd.R_reads' HO179.out).2.2 | (with_reducible refine Kd.C_alloc ?_ _) | (with_reducible refine Kd.C_drewN ?_ _) | (with_reducible refine Kd.C_drew ?_))); (case side2 => exact (Kd.R_reads' HO179.out).2.1); (case side3 => repeat (first | exact (Kd.R_reads' HO184.out).2.2 | (with_reducible refine Kd.C_alloc ?_ _) | (with_reducible refine Kd.C_drewN ?_ _) | (with_reducible refine Kd.C_drew ?_))); (case side4 => exact (Kd.R_reads' HO184.out).2.1); rintro e w' ⟨rfl, ⟨nd, rfl⟩⟩))
            go_ret
            exact ⟨by first | rfl | (simp [errW_none, errW_some] <;> rfl) | (simp [*, errW_none, errW_some] <;> rfl), by repeat (first | (with_reducible first | exact HB.out | apply below_alloc | apply pw_below_drewN | apply below_drew1) | exact HB.out)⟩
          · replace c10 := Bool.eq_false_iff.mpr c10
            subst c10
            have H1 : (some false) = some r := by rw [if_neg (show ¬ (false = true) by decide)] at H; exact H
            clear H
            have H := H1
            clear H1
            obtain rfl := Option.some.inj H
            go_enter Try.func13, Try.ntmps13
            go_wp2_with (first | ((with_reducible refine gate_callee (f := 41) rfl ?_); refine goesL_ (some 6) rfl rfl Try.func41 (by kernel_rfl) rfl #[] rfl (by (try simp only [List.map_toArray, List.map_cons, List.map_nil]); first | done | rfl | (simp only [List.length_drop, List.length_take]; rfl)) ?_; (with_reducible refine (gramaryelaw10_sample.calls  t157 t158 t159 t162 _ A1.out).mono ?_); rintro e w25 ⟨v160, v163, rfl, ho0, ho1, hb⟩; refine ⟨_, rfl, ?_⟩; have n0_ := Aside0.mk (Kd.R_lower (Kd.R_mono (ok' := fun k_ => True) ho0 (fun _ hk_ => trivial)) (below_size (by repeat (first | (with_reducible first | exact HB.out | apply below_alloc | apply pw_below_drewN | apply below_drew1) | exact HB.out)))); have n1_ := Aside0.mk (Kd.N_lower (Kd.N_mono (ok' := fun k_ => some k_ ≠ (v160 : Value).ownBlock) ho1 (fun k_ hk_ => hk_.2)) (below_size (by repeat (first | (with_reducible first | exact HB.out | apply below_alloc | apply pw_below_drewN | apply below_drew1) | exact HB.out)))); have n2_ := Aside0.mk (below_step (by repeat (first | (with_reducible first | exact HB.out | apply below_alloc | apply pw_below_drewN | apply below_drew1) | exact HB.out)) hb); clear HB; have HO161 := n0_; have HO164 := n1_; have HB := n2_; clear n0_ n1_ n2_; (try clear hb); (try clear hb2); (try clear hk); (try clear hi); (try clear ho0); (try clear ho1); obtain ⟨Ao26, co26, eo26⟩ := Kd.R_slice HO161.out; subst eo26; obtain ⟨Ao27, co27, eo27⟩ := Kd.N_slice HO164.out; subst eo27) | ((with_reducible refine gate_callee (f := 16) rfl ?_); refine goesL_ (some 7) rfl rfl Try.func16 (by kernel_rfl) rfl #[.agg #[.int .i64 t157, .int .i64 t158, .slice Ao26 t159.length co26, .slice Ao27 t162.length co27]] rfl (by (try simp only [List.map_toArray, List.map_cons, List.map_nil]); first | done | rfl | (simp only [List.length_drop, List.length_take]; rfl)) ?_; (with_reducible refine (empty_Nothing.calls t157 t158 _ _ t159 _ _ t162 t165 t168 _ ?side1 ?side2 ?side3 ?side4 A2.out).mono ?_); (case side1 => repeat (first | exact (Kd.R_reads' HO161.out).2.2 | (with_reducible refine Kd.C_alloc ?_ _) | (with_reducible refine Kd.C_drewN ?_ _) | (with_reducible refine Kd.C_drew ?_))); (case side2 => exact (Kd.R_reads' HO161.out).2.1); (case side3 => repeat (first | exact (Kd.N_reads' HO164.out).2.2 | (with_reducible refine Kd.C_alloc ?_ _) | (with_reducible refine Kd.C_drewN ?_ _) | (with_reducible refine Kd.C_drew ?_))); (case side4 => exact (Kd.N_reads' HO164.out).2.1); rintro e w28 ⟨v166, rfl, ho0, hb⟩; refine ⟨_, rfl, ?_⟩; have n0_ := Aside0.mk (Kd.R_below (by (with_reducible repeat (first | apply Kd.R_alloc | apply Kd.R_drewN | apply Kd.R_drew)); exact HO161.out) hb); have n1_ := Aside0.mk (Kd.N_elder' (by (with_reducible repeat (first | apply Kd.N_alloc | apply Kd.N_drewN | apply Kd.N_drew)); exact HO164.out) (Kd.R_base ho0) hb); have n2_ := Aside0.mk (Kd.R_lower ho0 (below_size (by repeat (first | (with_reducible first | exact HB.out | apply below_alloc | apply pw_below_drewN | apply below_drew1) | exact HB.out)))); have n3_ := Aside0.mk (below_step (by repeat (first | (with_reducible first | exact HB.out | apply below_alloc | apply pw_below_drewN | apply below_drew1) | exact HB.out)) hb); clear HO161; clear HO164; clear HB; have HO161 := n0_; have HO164 := n1_; have HO167 := n2_; have HB := n3_; clear n0_ n1_ n2_ n3_; (try clear hb); (try clear hb2); (try clear hk); (try clear hi); (try clear ho0)) | ((with_reducible refine gate_callee (f := 41) rfl ?_); refine goesL_ (some 11) rfl rfl Try.func41 (by kernel_rfl) rfl #[] rfl (by (try simp only [List.map_toArray, List.map_cons, List.map_nil]); first | done | rfl | (simp only [List.length_drop, List.length_take]; rfl)) ?_; (with_reducible refine (gramaryelaw10_sample.calls  t169 t170 t171 t174 _ A3.out).mono ?_); rintro e w29 ⟨v172, v175, rfl, ho0, ho1, hb⟩; refine ⟨_, rfl, ?_⟩; have n0_ := Aside0.mk (Kd.R_elder' (by (with_reducible repeat (first | apply Kd.R_alloc | apply Kd.R_drewN | apply Kd.R_drew)); exact HO161.out) (Kd.R_base ho0) hb); have n1_ := Aside0.mk (Kd.N_mono (Kd.N_told (Kd.N_told (Kd.N_old (by (with_reducible repeat (first | apply Kd.N_alloc | apply Kd.N_drewN | apply Kd.N_drew)); exact HO164.out) hb) (Kd.R_base ho0)) (Kd.N_base ho1)) (fun _ h_ => h_.1)); have n2_ := Aside0.mk (Kd.R_below (by (with_reducible repeat (first | apply Kd.R_alloc | apply Kd.R_drewN | apply Kd.R_drew)); exact HO167.out) hb); have n3_ := Aside0.mk (Kd.R_lower (Kd.R_new' (Kd.R_mono (ok' := fun k_ => True) ho0 (fun _ hk_ => trivial)) (Kd.R_lt (by (with_reducible repeat (first | apply Kd.R_alloc | apply Kd.R_drewN | apply Kd.R_drew)); exact HO161.out))) (below_size (by repeat (first | (with_reducible first | exact HB.out | apply below_alloc | apply pw_below_drewN | apply below_drew1) | exact HB.out)))); have n4_ := Aside0.mk (Kd.N_lower (Kd.N_mono (ok' := fun k_ => some k_ ≠ (v172 : Value).ownBlock ∧ some k_ ≠ (.slice Ao26 t159.length co26 : Value).ownBlock ∧ some k_ ≠ (.slice Ao27 t162.length co27 : Value).ownBlock ∧ some k_ ≠ (v166 : Value).ownBlock) ho1 (fun k_ hk_ => ⟨hk_.2, (Kd.fresh' (Kd.R_lt (by (with_reducible repeat (first | apply Kd.R_alloc | apply Kd.R_drewN | apply Kd.R_drew)); exact HO161.out)) k_ hk_.1), (Kd.fresh' (Kd.N_lt (by (with_reducible repeat (first | apply Kd.N_alloc | apply Kd.N_drewN | apply Kd.N_drew)); exact HO164.out)) k_ hk_.1), (Kd.fresh' (Kd.R_lt (by (with_reducible repeat (first | apply Kd.R_alloc | apply Kd.R_drewN | apply Kd.R_drew)); exact HO167.out)) k_ hk_.1)⟩)) (below_size (by repeat (first | (with_reducible first | exact HB.out | apply below_alloc | apply pw_below_drewN | apply below_drew1) | exact HB.out)))); have n5_ := Aside0.mk (below_step (by repeat (first | (with_reducible first | exact HB.out | apply below_alloc | apply pw_below_drewN | apply below_drew1) | exact HB.out)) hb); clear HO161; clear HO164; clear HO167; clear HB; have HO161 := n0_; have HO164 := n1_; have HO167 := n2_; have HO173 := n3_; have HO176 := n4_; have HB := n5_; clear n0_ n1_ n2_ n3_ n4_ n5_; (try clear hb); (try clear hb2); (try clear hk); (try clear hi); (try clear ho0); (try clear ho1); obtain ⟨Ao30, co30, eo30⟩ := Kd.R_slice HO173.out; subst eo30; obtain ⟨Ao31, co31, eo31⟩ := Kd.N_slice HO176.out; subst eo31) | ((with_reducible refine gate_callee (f := 11) rfl ?_); refine goesL_ (some 12) rfl rfl Try.func11 (by kernel_rfl) rfl #[.agg #[.int .i64 t169, .int .i64 t170, .slice Ao30 t171.length co30, .slice Ao31 t174.length co31]] rfl (by (try simp only [List.map_toArray, List.map_cons, List.map_nil]); first | done | rfl | (simp only [List.length_drop, List.length_take]; rfl)) ?_; (with_reducible refine (empty_Least.calls t169 t170 _ _ t171 _ _ t174 t177 t180 _ ?side1 ?side2 ?side3 ?side4 A4.out).mono ?_); (case side1 => repeat (first | exact (Kd.R_reads' HO173.out).2.2 | (with_reducible refine Kd.C_alloc ?_ _) | (with_reducible refine Kd.C_drewN ?_ _) | (with_reducible refine Kd.C_drew ?_))); (case side2 => exact (Kd.R_reads' HO173.out).2.1); (case side3 => repeat (first | exact (Kd.N_reads' HO176.out).2.2 | (with_reducible refine Kd.C_alloc ?_ _) | (with_reducible refine Kd.C_drewN ?_ _) | (with_reducible refine Kd.C_drew ?_))); (case side4 => exact (Kd.N_reads' HO176.out).2.1); rintro e w32 ⟨v178, rfl, ho0, hb⟩; refine ⟨_, rfl, ?_⟩; have n0_ := Aside0.mk (Kd.R_elder' (by (with_reducible repeat (first | apply Kd.R_alloc | apply Kd.R_drewN | apply Kd.R_drew)); exact HO161.out) (Kd.R_base ho0) hb); have n1_ := Aside0.mk (Kd.N_elder' (by (with_reducible repeat (first | apply Kd.N_alloc | apply Kd.N_drewN | apply Kd.N_drew)); exact HO164.out) (Kd.R_base ho0) hb); have n2_ := Aside0.mk (Kd.R_below (by (with_reducible repeat (first | apply Kd.R_alloc | apply Kd.R_drewN | apply Kd.R_drew)); exact HO167.out) hb); have n3_ := Aside0.mk (Kd.R_elder' (by (with_reducible repeat (first | apply Kd.R_alloc | apply Kd.R_drewN | apply Kd.R_drew)); exact HO173.out) (Kd.R_base ho0) hb); have n4_ := Aside0.mk (Kd.N_elder' (by (with_reducible repeat (first | apply Kd.N_alloc | apply Kd.N_drewN | apply Kd.N_drew)); exact HO176.out) (Kd.R_base ho0) hb); have n5_ := Aside0.mk (Kd.R_lower (Kd.R_new' (Kd.R_new' ho0 (Kd.R_lt (by (with_reducible repeat (first | apply Kd.R_alloc | apply Kd.R_drewN | apply Kd.R_drew)); exact HO161.out))) (Kd.R_lt (by (with_reducible repeat (first | apply Kd.R_alloc | apply Kd.R_drewN | apply Kd.R_drew)); exact HO173.out))) (below_size (by repeat (first | (with_reducible first | exact HB.out | apply below_alloc | apply pw_below_drewN | apply below_drew1) | exact HB.out)))); have n6_ := Aside0.mk (below_step (by repeat (first | (with_reducible first | exact HB.out | apply below_alloc | apply pw_below_drewN | apply below_drew1) | exact HB.out)) hb); clear HO161; clear HO164; clear HO167; clear HO173; clear HO176; clear HB; have HO161 := n0_; have HO164 := n1_; have HO167 := n2_; have HO173 := n3_; have HO176 := n4_; have HO179 := n5_; have HB := n6_; clear n0_ n1_ n2_ n3_ n4_ n5_ n6_; (try clear hb); (try clear hb2); (try clear hk); (try clear hi); (try clear ho0); obtain ⟨Ao33, co33, eo33⟩ := Kd.R_slice HO167.out; subst eo33; have p181 : 0 ≤ (0 : Int) := (by omega); have q181 : 0 < (t165.length : Int) := of_decide_eq_true (by first | (with_reducible assumption) | assumption); obtain ⟨ad181, e181, hx181_0⟩ := Kd.at_bool (Kd.R_reads' HO167.out).2.2 0 p181 q181; (try rw [← Nbq9.out] at hx181_0); cases e181; have qi181 : (0 < t165.length) = True := eq_true (by omega); (try rw [show ((0 : Int)).toNat = 0 from rfl] at hx181_0); (try rw [Addr.add_zero'] at hx181_0); replace p181 := eq_true p181; replace q181 := eq_true q181))
            go_ret
            exact ⟨by first | rfl | (simp [errW_none, errW_some] <;> rfl) | (simp [*, errW_none, errW_some] <;> rfl), by repeat (first | (with_reducible first | exact HB.out | apply below_alloc | apply pw_below_drewN | apply below_drew1) | exact HB.out)⟩
        · rw [if_neg c8] at H
          exact absurd H (by simp)
      · rw [if_neg c7] at H
        have c7b0 : ((t165.length : Int) == 1) = false := beq_eq_false_iff_ne.mpr c7
        have c7b1 : ((t165.length : Int) != 1) = true := bne_iff_ne.mpr c7
        obtain rfl := Option.some.inj H
        go_enter Try.func13, Try.ntmps13
        go_wp2_with (first | ((with_reducible refine gate_callee (f := 41) rfl ?_); refine goesL_ (some 6) rfl rfl Try.func41 (by kernel_rfl) rfl #[] rfl (by (try simp only [List.map_toArray, List.map_cons, List.map_nil]); first | done | rfl | (simp only [List.length_drop, List.length_take]; rfl)) ?_; (with_reducible refine (gramaryelaw10_sample.calls  t157 t158 t159 t162 _ A1.out).mono ?_); rintro e w34 ⟨v160, v163, rfl, ho0, ho1, hb⟩; refine ⟨_, rfl, ?_⟩; have n0_ := Aside0.mk (Kd.R_lower (Kd.R_mono (ok' := fun k_ => True) ho0 (fun _ hk_ => trivial)) (below_size (by repeat (first | (with_reducible first | exact HB.out | apply below_alloc | apply pw_below_drewN | apply below_drew1) | exact HB.out)))); have n1_ := Aside0.mk (Kd.N_lower (Kd.N_mono (ok' := fun k_ => some k_ ≠ (v160 : Value).ownBlock) ho1 (fun k_ hk_ => hk_.2)) (below_size (by repeat (first | (with_reducible first | exact HB.out | apply below_alloc | apply pw_below_drewN | apply below_drew1) | exact HB.out)))); have n2_ := Aside0.mk (below_step (by repeat (first | (with_reducible first | exact HB.out | apply below_alloc | apply pw_below_drewN | apply below_drew1) | exact HB.out)) hb); clear HB; have HO161 := n0_; have HO164 := n1_; have HB := n2_; clear n0_ n1_ n2_; (try clear hb); (try clear hb2); (try clear hk); (try clear hi); (try clear ho0); (try clear ho1); obtain ⟨Ao35, co35, eo35⟩ := Kd.R_slice HO161.out; subst eo35; obtain ⟨Ao36, co36, eo36⟩ := Kd.N_slice HO164.out; subst eo36) | ((with_reducible refine gate_callee (f := 16) rfl ?_); refine goesL_ (some 7) rfl rfl Try.func16 (by kernel_rfl) rfl #[.agg #[.int .i64 t157, .int .i64 t158, .slice Ao35 t159.length co35, .slice Ao36 t162.length co36]] rfl (by (try simp only [List.map_toArray, List.map_cons, List.map_nil]); first | done | rfl | (simp only [List.length_drop, List.length_take]; rfl)) ?_; (with_reducible refine (empty_Nothing.calls t157 t158 _ _ t159 _ _ t162 t165 t168 _ ?side1 ?side2 ?side3 ?side4 A2.out).mono ?_); (case side1 => repeat (first | exact (Kd.R_reads' HO161.out).2.2 | (with_reducible refine Kd.C_alloc ?_ _) | (with_reducible refine Kd.C_drewN ?_ _) | (with_reducible refine Kd.C_drew ?_))); (case side2 => exact (Kd.R_reads' HO161.out).2.1); (case side3 => repeat (first | exact (Kd.N_reads' HO164.out).2.2 | (with_reducible refine Kd.C_alloc ?_ _) | (with_reducible refine Kd.C_drewN ?_ _) | (with_reducible refine Kd.C_drew ?_))); (case side4 => exact (Kd.N_reads' HO164.out).2.1); rintro e w37 ⟨v166, rfl, ho0, hb⟩; refine ⟨_, rfl, ?_⟩; have n0_ := Aside0.mk (Kd.R_below (by (with_reducible repeat (first | apply Kd.R_alloc | apply Kd.R_drewN | apply Kd.R_drew)); exact HO161.out) hb); have n1_ := Aside0.mk (Kd.N_elder' (by (with_reducible repeat (first | apply Kd.N_alloc | apply Kd.N_drewN | apply Kd.N_drew)); exact HO164.out) (Kd.R_base ho0) hb); have n2_ := Aside0.mk (Kd.R_lower ho0 (below_size (by repeat (first | (with_reducible first | exact HB.out | apply below_alloc | apply pw_below_drewN | apply below_drew1) | exact HB.out)))); have n3_ := Aside0.mk (below_step (by repeat (first | (with_reducible first | exact HB.out | apply below_alloc | apply pw_below_drewN | apply below_drew1) | exact HB.out)) hb); clear HO161; clear HO164; clear HB; have HO161 := n0_; have HO164 := n1_; have HO167 := n2_; have HB := n3_; clear n0_ n1_ n2_ n3_; (try clear hb); (try clear hb2); (try clear hk); (try clear hi); (try clear ho0)) | ((with_reducible refine gate_callee (f := 41) rfl ?_); refine goesL_ (some 11) rfl rfl Try.func41 (by kernel_rfl) rfl #[] rfl (by (try simp only [List.map_toArray, List.map_cons, List.map_nil]); first | done | rfl | (simp only [List.length_drop, List.length_take]; rfl)) ?_; (with_reducible refine (gramaryelaw10_sample.calls  t169 t170 t171 t174 _ A3.out).mono ?_); rintro e w38 ⟨v172, v175, rfl, ho0, ho1, hb⟩; refine ⟨_, rfl, ?_⟩; have n0_ := Aside0.mk (Kd.R_elder' (by (with_reducible repeat (first | apply Kd.R_alloc | apply Kd.R_drewN | apply Kd.R_drew)); exact HO161.out) (Kd.R_base ho0) hb); have n1_ := Aside0.mk (Kd.N_mono (Kd.N_told (Kd.N_told (Kd.N_old (by (with_reducible repeat (first | apply Kd.N_alloc | apply Kd.N_drewN | apply Kd.N_drew)); exact HO164.out) hb) (Kd.R_base ho0)) (Kd.N_base ho1)) (fun _ h_ => h_.1)); have n2_ := Aside0.mk (Kd.R_below (by (with_reducible repeat (first | apply Kd.R_alloc | apply Kd.R_drewN | apply Kd.R_drew)); exact HO167.out) hb); have n3_ := Aside0.mk (Kd.R_lower (Kd.R_new' (Kd.R_mono (ok' := fun k_ => True) ho0 (fun _ hk_ => trivial)) (Kd.R_lt (by (with_reducible repeat (first | apply Kd.R_alloc | apply Kd.R_drewN | apply Kd.R_drew)); exact HO161.out))) (below_size (by repeat (first | (with_reducible first | exact HB.out | apply below_alloc | apply pw_below_drewN | apply below_drew1) | exact HB.out)))); have n4_ := Aside0.mk (Kd.N_lower (Kd.N_mono (ok' := fun k_ => some k_ ≠ (v172 : Value).ownBlock ∧ some k_ ≠ (.slice Ao35 t159.length co35 : Value).ownBlock ∧ some k_ ≠ (.slice Ao36 t162.length co36 : Value).ownBlock ∧ some k_ ≠ (v166 : Value).ownBlock) ho1 (fun k_ hk_ => ⟨hk_.2, (Kd.fresh' (Kd.R_lt (by (with_reducible repeat (first | apply Kd.R_alloc | apply Kd.R_drewN | apply Kd.R_drew)); exact HO161.out)) k_ hk_.1), (Kd.fresh' (Kd.N_lt (by (with_reducible repeat (first | apply Kd.N_alloc | apply Kd.N_drewN | apply Kd.N_drew)); exact HO164.out)) k_ hk_.1), (Kd.fresh' (Kd.R_lt (by (with_reducible repeat (first | apply Kd.R_alloc | apply Kd.R_drewN | apply Kd.R_drew)); exact HO167.out)) k_ hk_.1)⟩)) (below_size (by repeat (first | (with_reducible first | exact HB.out | apply below_alloc | apply pw_below_drewN | apply below_drew1) | exact HB.out)))); have n5_ := Aside0.mk (below_step (by repeat (first | (with_reducible first | exact HB.out | apply below_alloc | apply pw_below_drewN | apply below_drew1) | exact HB.out)) hb); clear HO161; clear HO164; clear HO167; clear HB; have HO161 := n0_; have HO164 := n1_; have HO167 := n2_; have HO173 := n3_; have HO176 := n4_; have HB := n5_; clear n0_ n1_ n2_ n3_ n4_ n5_; (try clear hb); (try clear hb2); (try clear hk); (try clear hi); (try clear ho0); (try clear ho1); obtain ⟨Ao39, co39, eo39⟩ := Kd.R_slice HO173.out; subst eo39; obtain ⟨Ao40, co40, eo40⟩ := Kd.N_slice HO176.out; subst eo40) | ((with_reducible refine gate_callee (f := 11) rfl ?_); refine goesL_ (some 12) rfl rfl Try.func11 (by kernel_rfl) rfl #[.agg #[.int .i64 t169, .int .i64 t170, .slice Ao39 t171.length co39, .slice Ao40 t174.length co40]] rfl (by (try simp only [List.map_toArray, List.map_cons, List.map_nil]); first | done | rfl | (simp only [List.length_drop, List.length_take]; rfl)) ?_; (with_reducible refine (empty_Least.calls t169 t170 _ _ t171 _ _ t174 t177 t180 _ ?side1 ?side2 ?side3 ?side4 A4.out).mono ?_); (case side1 => repeat (first | exact (Kd.R_reads' HO173.out).2.2 | (with_reducible refine Kd.C_alloc ?_ _) | (with_reducible refine Kd.C_drewN ?_ _) | (with_reducible refine Kd.C_drew ?_))); (case side2 => exact (Kd.R_reads' HO173.out).2.1); (case side3 => repeat (first | exact (Kd.N_reads' HO176.out).2.2 | (with_reducible refine Kd.C_alloc ?_ _) | (with_reducible refine Kd.C_drewN ?_ _) | (with_reducible refine Kd.C_drew ?_))); (case side4 => exact (Kd.N_reads' HO176.out).2.1); rintro e w41 ⟨v178, rfl, ho0, hb⟩; refine ⟨_, rfl, ?_⟩; have n0_ := Aside0.mk (Kd.R_elder' (by (with_reducible repeat (first | apply Kd.R_alloc | apply Kd.R_drewN | apply Kd.R_drew)); exact HO161.out) (Kd.R_base ho0) hb); have n1_ := Aside0.mk (Kd.N_elder' (by (with_reducible repeat (first | apply Kd.N_alloc | apply Kd.N_drewN | apply Kd.N_drew)); exact HO164.out) (Kd.R_base ho0) hb); have n2_ := Aside0.mk (Kd.R_below (by (with_reducible repeat (first | apply Kd.R_alloc | apply Kd.R_drewN | apply Kd.R_drew)); exact HO167.out) hb); have n3_ := Aside0.mk (Kd.R_elder' (by (with_reducible repeat (first | apply Kd.R_alloc | apply Kd.R_drewN | apply Kd.R_drew)); exact HO173.out) (Kd.R_base ho0) hb); have n4_ := Aside0.mk (Kd.N_elder' (by (with_reducible repeat (first | apply Kd.N_alloc | apply Kd.N_drewN | apply Kd.N_drew)); exact HO176.out) (Kd.R_base ho0) hb); have n5_ := Aside0.mk (Kd.R_lower (Kd.R_new' (Kd.R_new' ho0 (Kd.R_lt (by (with_reducible repeat (first | apply Kd.R_alloc | apply Kd.R_drewN | apply Kd.R_drew)); exact HO161.out))) (Kd.R_lt (by (with_reducible repeat (first | apply Kd.R_alloc | apply Kd.R_drewN | apply Kd.R_drew)); exact HO173.out))) (below_size (by repeat (first | (with_reducible first | exact HB.out | apply below_alloc | apply pw_below_drewN | apply below_drew1) | exact HB.out)))); have n6_ := Aside0.mk (below_step (by repeat (first | (with_reducible first | exact HB.out | apply below_alloc | apply pw_below_drewN | apply below_drew1) | exact HB.out)) hb); clear HO161; clear HO164; clear HO167; clear HO173; clear HO176; clear HB; have HO161 := n0_; have HO164 := n1_; have HO167 := n2_; have HO173 := n3_; have HO176 := n4_; have HO179 := n5_; have HB := n6_; clear n0_ n1_ n2_ n3_ n4_ n5_ n6_; (try clear hb); (try clear hb2); (try clear hk); (try clear hi); (try clear ho0); obtain ⟨Ao42, co42, eo42⟩ := Kd.R_slice HO167.out; subst eo42))
        go_ret
        exact ⟨by first | rfl | (simp [errW_none, errW_some] <;> rfl) | (simp [*, errW_none, errW_some] <;> rfl), by repeat (first | (with_reducible first | exact HB.out | apply below_alloc | apply pw_below_drewN | apply below_drew1) | exact HB.out)⟩
    · rw [if_neg c6] at H
      have c6b0 : (t180 == 0) = false := beq_eq_false_iff_ne.mpr c6
      have c6b1 : (t180 != 0) = true := bne_iff_ne.mpr c6
      obtain rfl := Option.some.inj H
      go_enter Try.func13, Try.ntmps13
      go_wp2_with (first | ((with_reducible refine gate_callee (f := 41) rfl ?_); refine goesL_ (some 6) rfl rfl Try.func41 (by kernel_rfl) rfl #[] rfl (by (try simp only [List.map_toArray, List.map_cons, List.map_nil]); first | done | rfl | (simp only [List.length_drop, List.length_take]; rfl)) ?_; (with_reducible refine (gramaryelaw10_sample.calls  t157 t158 t159 t162 _ A1.out).mono ?_); rintro e w43 ⟨v160, v163, rfl, ho0, ho1, hb⟩; refine ⟨_, rfl, ?_⟩; have n0_ := Aside0.mk (Kd.R_lower (Kd.R_mono (ok' := fun k_ => True) ho0 (fun _ hk_ => trivial)) (below_size (by repeat (first | (with_reducible first | exact HB.out | apply below_alloc | apply pw_below_drewN | apply below_drew1) | exact HB.out)))); have n1_ := Aside0.mk (Kd.N_lower (Kd.N_mono (ok' := fun k_ => some k_ ≠ (v160 : Value).ownBlock) ho1 (fun k_ hk_ => hk_.2)) (below_size (by repeat (first | (with_reducible first | exact HB.out | apply below_alloc | apply pw_below_drewN | apply below_drew1) | exact HB.out)))); have n2_ := Aside0.mk (below_step (by repeat (first | (with_reducible first | exact HB.out | apply below_alloc | apply pw_below_drewN | apply below_drew1) | exact HB.out)) hb); clear HB; have HO161 := n0_; have HO164 := n1_; have HB := n2_; clear n0_ n1_ n2_; (try clear hb); (try clear hb2); (try clear hk); (try clear hi); (try clear ho0); (try clear ho1); obtain ⟨Ao44, co44, eo44⟩ := Kd.R_slice HO161.out; subst eo44; obtain ⟨Ao45, co45, eo45⟩ := Kd.N_slice HO164.out; subst eo45) | ((with_reducible refine gate_callee (f := 16) rfl ?_); refine goesL_ (some 7) rfl rfl Try.func16 (by kernel_rfl) rfl #[.agg #[.int .i64 t157, .int .i64 t158, .slice Ao44 t159.length co44, .slice Ao45 t162.length co45]] rfl (by (try simp only [List.map_toArray, List.map_cons, List.map_nil]); first | done | rfl | (simp only [List.length_drop, List.length_take]; rfl)) ?_; (with_reducible refine (empty_Nothing.calls t157 t158 _ _ t159 _ _ t162 t165 t168 _ ?side1 ?side2 ?side3 ?side4 A2.out).mono ?_); (case side1 => repeat (first | exact (Kd.R_reads' HO161.out).2.2 | (with_reducible refine Kd.C_alloc ?_ _) | (with_reducible refine Kd.C_drewN ?_ _) | (with_reducible refine Kd.C_drew ?_))); (case side2 => exact (Kd.R_reads' HO161.out).2.1); (case side3 => repeat (first | exact (Kd.N_reads' HO164.out).2.2 | (with_reducible refine Kd.C_alloc ?_ _) | (with_reducible refine Kd.C_drewN ?_ _) | (with_reducible refine Kd.C_drew ?_))); (case side4 => exact (Kd.N_reads' HO164.out).2.1); rintro e w46 ⟨v166, rfl, ho0, hb⟩; refine ⟨_, rfl, ?_⟩; have n0_ := Aside0.mk (Kd.R_below (by (with_reducible repeat (first | apply Kd.R_alloc | apply Kd.R_drewN | apply Kd.R_drew)); exact HO161.out) hb); have n1_ := Aside0.mk (Kd.N_elder' (by (with_reducible repeat (first | apply Kd.N_alloc | apply Kd.N_drewN | apply Kd.N_drew)); exact HO164.out) (Kd.R_base ho0) hb); have n2_ := Aside0.mk (Kd.R_lower ho0 (below_size (by repeat (first | (with_reducible first | exact HB.out | apply below_alloc | apply pw_below_drewN | apply below_drew1) | exact HB.out)))); have n3_ := Aside0.mk (below_step (by repeat (first | (with_reducible first | exact HB.out | apply below_alloc | apply pw_below_drewN | apply below_drew1) | exact HB.out)) hb); clear HO161; clear HO164; clear HB; have HO161 := n0_; have HO164 := n1_; have HO167 := n2_; have HB := n3_; clear n0_ n1_ n2_ n3_; (try clear hb); (try clear hb2); (try clear hk); (try clear hi); (try clear ho0)) | ((with_reducible refine gate_callee (f := 41) rfl ?_); refine goesL_ (some 11) rfl rfl Try.func41 (by kernel_rfl) rfl #[] rfl (by (try simp only [List.map_toArray, List.map_cons, List.map_nil]); first | done | rfl | (simp only [List.length_drop, List.length_take]; rfl)) ?_; (with_reducible refine (gramaryelaw10_sample.calls  t169 t170 t171 t174 _ A3.out).mono ?_); rintro e w47 ⟨v172, v175, rfl, ho0, ho1, hb⟩; refine ⟨_, rfl, ?_⟩; have n0_ := Aside0.mk (Kd.R_elder' (by (with_reducible repeat (first | apply Kd.R_alloc | apply Kd.R_drewN | apply Kd.R_drew)); exact HO161.out) (Kd.R_base ho0) hb); have n1_ := Aside0.mk (Kd.N_mono (Kd.N_told (Kd.N_told (Kd.N_old (by (with_reducible repeat (first | apply Kd.N_alloc | apply Kd.N_drewN | apply Kd.N_drew)); exact HO164.out) hb) (Kd.R_base ho0)) (Kd.N_base ho1)) (fun _ h_ => h_.1)); have n2_ := Aside0.mk (Kd.R_below (by (with_reducible repeat (first | apply Kd.R_alloc | apply Kd.R_drewN | apply Kd.R_drew)); exact HO167.out) hb); have n3_ := Aside0.mk (Kd.R_lower (Kd.R_new' (Kd.R_mono (ok' := fun k_ => True) ho0 (fun _ hk_ => trivial)) (Kd.R_lt (by (with_reducible repeat (first | apply Kd.R_alloc | apply Kd.R_drewN | apply Kd.R_drew)); exact HO161.out))) (below_size (by repeat (first | (with_reducible first | exact HB.out | apply below_alloc | apply pw_below_drewN | apply below_drew1) | exact HB.out)))); have n4_ := Aside0.mk (Kd.N_lower (Kd.N_mono (ok' := fun k_ => some k_ ≠ (v172 : Value).ownBlock ∧ some k_ ≠ (.slice Ao44 t159.length co44 : Value).ownBlock ∧ some k_ ≠ (.slice Ao45 t162.length co45 : Value).ownBlock ∧ some k_ ≠ (v166 : Value).ownBlock) ho1 (fun k_ hk_ => ⟨hk_.2, (Kd.fresh' (Kd.R_lt (by (with_reducible repeat (first | apply Kd.R_alloc | apply Kd.R_drewN | apply Kd.R_drew)); exact HO161.out)) k_ hk_.1), (Kd.fresh' (Kd.N_lt (by (with_reducible repeat (first | apply Kd.N_alloc | apply Kd.N_drewN | apply Kd.N_drew)); exact HO164.out)) k_ hk_.1), (Kd.fresh' (Kd.R_lt (by (with_reducible repeat (first | apply Kd.R_alloc | apply Kd.R_drewN | apply Kd.R_drew)); exact HO167.out)) k_ hk_.1)⟩)) (below_size (by repeat (first | (with_reducible first | exact HB.out | apply below_alloc | apply pw_below_drewN | apply below_drew1) | exact HB.out)))); have n5_ := Aside0.mk (below_step (by repeat (first | (with_reducible first | exact HB.out | apply below_alloc | apply pw_below_drewN | apply below_drew1) | exact HB.out)) hb); clear HO161; clear HO164; clear HO167; clear HB; have HO161 := n0_; have HO164 := n1_; have HO167 := n2_; have HO173 := n3_; have HO176 := n4_; have HB := n5_; clear n0_ n1_ n2_ n3_ n4_ n5_; (try clear hb); (try clear hb2); (try clear hk); (try clear hi); (try clear ho0); (try clear ho1); obtain ⟨Ao48, co48, eo48⟩ := Kd.R_slice HO173.out; subst eo48; obtain ⟨Ao49, co49, eo49⟩ := Kd.N_slice HO176.out; subst eo49) | ((with_reducible refine gate_callee (f := 11) rfl ?_); refine goesL_ (some 12) rfl rfl Try.func11 (by kernel_rfl) rfl #[.agg #[.int .i64 t169, .int .i64 t170, .slice Ao48 t171.length co48, .slice Ao49 t174.length co49]] rfl (by (try simp only [List.map_toArray, List.map_cons, List.map_nil]); first | done | rfl | (simp only [List.length_drop, List.length_take]; rfl)) ?_; (with_reducible refine (empty_Least.calls t169 t170 _ _ t171 _ _ t174 t177 t180 _ ?side1 ?side2 ?side3 ?side4 A4.out).mono ?_); (case side1 => repeat (first | exact (Kd.R_reads' HO173.out).2.2 | (with_reducible refine Kd.C_alloc ?_ _) | (with_reducible refine Kd.C_drewN ?_ _) | (with_reducible refine Kd.C_drew ?_))); (case side2 => exact (Kd.R_reads' HO173.out).2.1); (case side3 => repeat (first | exact (Kd.N_reads' HO176.out).2.2 | (with_reducible refine Kd.C_alloc ?_ _) | (with_reducible refine Kd.C_drewN ?_ _) | (with_reducible refine Kd.C_drew ?_))); (case side4 => exact (Kd.N_reads' HO176.out).2.1); rintro e w50 ⟨v178, rfl, ho0, hb⟩; refine ⟨_, rfl, ?_⟩; have n0_ := Aside0.mk (Kd.R_elder' (by (with_reducible repeat (first | apply Kd.R_alloc | apply Kd.R_drewN | apply Kd.R_drew)); exact HO161.out) (Kd.R_base ho0) hb); have n1_ := Aside0.mk (Kd.N_elder' (by (with_reducible repeat (first | apply Kd.N_alloc | apply Kd.N_drewN | apply Kd.N_drew)); exact HO164.out) (Kd.R_base ho0) hb); have n2_ := Aside0.mk (Kd.R_below (by (with_reducible repeat (first | apply Kd.R_alloc | apply Kd.R_drewN | apply Kd.R_drew)); exact HO167.out) hb); have n3_ := Aside0.mk (Kd.R_elder' (by (with_reducible repeat (first | apply Kd.R_alloc | apply Kd.R_drewN | apply Kd.R_drew)); exact HO173.out) (Kd.R_base ho0) hb); have n4_ := Aside0.mk (Kd.N_elder' (by (with_reducible repeat (first | apply Kd.N_alloc | apply Kd.N_drewN | apply Kd.N_drew)); exact HO176.out) (Kd.R_base ho0) hb); have n5_ := Aside0.mk (Kd.R_lower (Kd.R_new' (Kd.R_new' ho0 (Kd.R_lt (by (with_reducible repeat (first | apply Kd.R_alloc | apply Kd.R_drewN | apply Kd.R_drew)); exact HO161.out))) (Kd.R_lt (by (with_reducible repeat (first | apply Kd.R_alloc | apply Kd.R_drewN | apply Kd.R_drew)); exact HO173.out))) (below_size (by repeat (first | (with_reducible first | exact HB.out | apply below_alloc | apply pw_below_drewN | apply below_drew1) | exact HB.out)))); have n6_ := Aside0.mk (below_step (by repeat (first | (with_reducible first | exact HB.out | apply below_alloc | apply pw_below_drewN | apply below_drew1) | exact HB.out)) hb); clear HO161; clear HO164; clear HO167; clear HO173; clear HO176; clear HB; have HO161 := n0_; have HO164 := n1_; have HO167 := n2_; have HO173 := n3_; have HO176 := n4_; have HO179 := n5_; have HB := n6_; clear n0_ n1_ n2_ n3_ n4_ n5_ n6_; (try clear hb); (try clear hb2); (try clear hk); (try clear hi); (try clear ho0)))
      go_ret
      exact ⟨by first | rfl | (simp [errW_none, errW_some] <;> rfl) | (simp [*, errW_none, errW_some] <;> rfl), by repeat (first | (with_reducible first | exact HB.out | apply below_alloc | apply pw_below_drewN | apply below_drew1) | exact HB.out)⟩
  · rw [if_neg c5] at H
    have c5b0 : (t168 == 0) = false := beq_eq_false_iff_ne.mpr c5
    have c5b1 : (t168 != 0) = true := bne_iff_ne.mpr c5
    obtain rfl := Option.some.inj H
    go_enter Try.func13, Try.ntmps13
    go_wp2_with (first | ((with_reducible refine gate_callee (f := 41) rfl ?_); refine goesL_ (some 6) rfl rfl Try.func41 (by kernel_rfl) rfl #[] rfl (by (try simp only [List.map_toArray, List.map_cons, List.map_nil]); first | done | rfl | (simp only [List.length_drop, List.length_take]; rfl)) ?_; (with_reducible refine (gramaryelaw10_sample.calls  t157 t158 t159 t162 _ A1.out).mono ?_); rintro e w51 ⟨v160, v163, rfl, ho0, ho1, hb⟩; refine ⟨_, rfl, ?_⟩; have n0_ := Aside0.mk (Kd.R_lower (Kd.R_mono (ok' := fun k_ => True) ho0 (fun _ hk_ => trivial)) (below_size (by repeat (first | (with_reducible first | exact HB.out | apply below_alloc | apply pw_below_drewN | apply below_drew1) | exact HB.out)))); have n1_ := Aside0.mk (Kd.N_lower (Kd.N_mono (ok' := fun k_ => some k_ ≠ (v160 : Value).ownBlock) ho1 (fun k_ hk_ => hk_.2)) (below_size (by repeat (first | (with_reducible first | exact HB.out | apply below_alloc | apply pw_below_drewN | apply below_drew1) | exact HB.out)))); have n2_ := Aside0.mk (below_step (by repeat (first | (with_reducible first | exact HB.out | apply below_alloc | apply pw_below_drewN | apply below_drew1) | exact HB.out)) hb); clear HB; have HO161 := n0_; have HO164 := n1_; have HB := n2_; clear n0_ n1_ n2_; (try clear hb); (try clear hb2); (try clear hk); (try clear hi); (try clear ho0); (try clear ho1); obtain ⟨Ao52, co52, eo52⟩ := Kd.R_slice HO161.out; subst eo52; obtain ⟨Ao53, co53, eo53⟩ := Kd.N_slice HO164.out; subst eo53) | ((with_reducible refine gate_callee (f := 16) rfl ?_); refine goesL_ (some 7) rfl rfl Try.func16 (by kernel_rfl) rfl #[.agg #[.int .i64 t157, .int .i64 t158, .slice Ao52 t159.length co52, .slice Ao53 t162.length co53]] rfl (by (try simp only [List.map_toArray, List.map_cons, List.map_nil]); first | done | rfl | (simp only [List.length_drop, List.length_take]; rfl)) ?_; (with_reducible refine (empty_Nothing.calls t157 t158 _ _ t159 _ _ t162 t165 t168 _ ?side1 ?side2 ?side3 ?side4 A2.out).mono ?_); (case side1 => repeat (first | exact (Kd.R_reads' HO161.out).2.2 | (with_reducible refine Kd.C_alloc ?_ _) | (with_reducible refine Kd.C_drewN ?_ _) | (with_reducible refine Kd.C_drew ?_))); (case side2 => exact (Kd.R_reads' HO161.out).2.1); (case side3 => repeat (first | exact (Kd.N_reads' HO164.out).2.2 | (with_reducible refine Kd.C_alloc ?_ _) | (with_reducible refine Kd.C_drewN ?_ _) | (with_reducible refine Kd.C_drew ?_))); (case side4 => exact (Kd.N_reads' HO164.out).2.1); rintro e w54 ⟨v166, rfl, ho0, hb⟩; refine ⟨_, rfl, ?_⟩; have n0_ := Aside0.mk (Kd.R_below (by (with_reducible repeat (first | apply Kd.R_alloc | apply Kd.R_drewN | apply Kd.R_drew)); exact HO161.out) hb); have n1_ := Aside0.mk (Kd.N_elder' (by (with_reducible repeat (first | apply Kd.N_alloc | apply Kd.N_drewN | apply Kd.N_drew)); exact HO164.out) (Kd.R_base ho0) hb); have n2_ := Aside0.mk (Kd.R_lower ho0 (below_size (by repeat (first | (with_reducible first | exact HB.out | apply below_alloc | apply pw_below_drewN | apply below_drew1) | exact HB.out)))); have n3_ := Aside0.mk (below_step (by repeat (first | (with_reducible first | exact HB.out | apply below_alloc | apply pw_below_drewN | apply below_drew1) | exact HB.out)) hb); clear HO161; clear HO164; clear HB; have HO161 := n0_; have HO164 := n1_; have HO167 := n2_; have HB := n3_; clear n0_ n1_ n2_ n3_; (try clear hb); (try clear hb2); (try clear hk); (try clear hi); (try clear ho0)) | ((with_reducible refine gate_callee (f := 41) rfl ?_); refine goesL_ (some 11) rfl rfl Try.func41 (by kernel_rfl) rfl #[] rfl (by (try simp only [List.map_toArray, List.map_cons, List.map_nil]); first | done | rfl | (simp only [List.length_drop, List.length_take]; rfl)) ?_; (with_reducible refine (gramaryelaw10_sample.calls  t169 t170 t171 t174 _ A3.out).mono ?_); rintro e w55 ⟨v172, v175, rfl, ho0, ho1, hb⟩; refine ⟨_, rfl, ?_⟩; have n0_ := Aside0.mk (Kd.R_elder' (by (with_reducible repeat (first | apply Kd.R_alloc | apply Kd.R_drewN | apply Kd.R_drew)); exact HO161.out) (Kd.R_base ho0) hb); have n1_ := Aside0.mk (Kd.N_mono (Kd.N_told (Kd.N_told (Kd.N_old (by (with_reducible repeat (first | apply Kd.N_alloc | apply Kd.N_drewN | apply Kd.N_drew)); exact HO164.out) hb) (Kd.R_base ho0)) (Kd.N_base ho1)) (fun _ h_ => h_.1)); have n2_ := Aside0.mk (Kd.R_below (by (with_reducible repeat (first | apply Kd.R_alloc | apply Kd.R_drewN | apply Kd.R_drew)); exact HO167.out) hb); have n3_ := Aside0.mk (Kd.R_lower (Kd.R_new' (Kd.R_mono (ok' := fun k_ => True) ho0 (fun _ hk_ => trivial)) (Kd.R_lt (by (with_reducible repeat (first | apply Kd.R_alloc | apply Kd.R_drewN | apply Kd.R_drew)); exact HO161.out))) (below_size (by repeat (first | (with_reducible first | exact HB.out | apply below_alloc | apply pw_below_drewN | apply below_drew1) | exact HB.out)))); have n4_ := Aside0.mk (Kd.N_lower (Kd.N_mono (ok' := fun k_ => some k_ ≠ (v172 : Value).ownBlock ∧ some k_ ≠ (.slice Ao52 t159.length co52 : Value).ownBlock ∧ some k_ ≠ (.slice Ao53 t162.length co53 : Value).ownBlock ∧ some k_ ≠ (v166 : Value).ownBlock) ho1 (fun k_ hk_ => ⟨hk_.2, (Kd.fresh' (Kd.R_lt (by (with_reducible repeat (first | apply Kd.R_alloc | apply Kd.R_drewN | apply Kd.R_drew)); exact HO161.out)) k_ hk_.1), (Kd.fresh' (Kd.N_lt (by (with_reducible repeat (first | apply Kd.N_alloc | apply Kd.N_drewN | apply Kd.N_drew)); exact HO164.out)) k_ hk_.1), (Kd.fresh' (Kd.R_lt (by (with_reducible repeat (first | apply Kd.R_alloc | apply Kd.R_drewN | apply Kd.R_drew)); exact HO167.out)) k_ hk_.1)⟩)) (below_size (by repeat (first | (with_reducible first | exact HB.out | apply below_alloc | apply pw_below_drewN | apply below_drew1) | exact HB.out)))); have n5_ := Aside0.mk (below_step (by repeat (first | (with_reducible first | exact HB.out | apply below_alloc | apply pw_below_drewN | apply below_drew1) | exact HB.out)) hb); clear HO161; clear HO164; clear HO167; clear HB; have HO161 := n0_; have HO164 := n1_; have HO167 := n2_; have HO173 := n3_; have HO176 := n4_; have HB := n5_; clear n0_ n1_ n2_ n3_ n4_ n5_; (try clear hb); (try clear hb2); (try clear hk); (try clear hi); (try clear ho0); (try clear ho1); obtain ⟨Ao56, co56, eo56⟩ := Kd.R_slice HO173.out; subst eo56; obtain ⟨Ao57, co57, eo57⟩ := Kd.N_slice HO176.out; subst eo57) | ((with_reducible refine gate_callee (f := 11) rfl ?_); refine goesL_ (some 12) rfl rfl Try.func11 (by kernel_rfl) rfl #[.agg #[.int .i64 t169, .int .i64 t170, .slice Ao56 t171.length co56, .slice Ao57 t174.length co57]] rfl (by (try simp only [List.map_toArray, List.map_cons, List.map_nil]); first | done | rfl | (simp only [List.length_drop, List.length_take]; rfl)) ?_; (with_reducible refine (empty_Least.calls t169 t170 _ _ t171 _ _ t174 t177 t180 _ ?side1 ?side2 ?side3 ?side4 A4.out).mono ?_); (case side1 => repeat (first | exact (Kd.R_reads' HO173.out).2.2 | (with_reducible refine Kd.C_alloc ?_ _) | (with_reducible refine Kd.C_drewN ?_ _) | (with_reducible refine Kd.C_drew ?_))); (case side2 => exact (Kd.R_reads' HO173.out).2.1); (case side3 => repeat (first | exact (Kd.N_reads' HO176.out).2.2 | (with_reducible refine Kd.C_alloc ?_ _) | (with_reducible refine Kd.C_drewN ?_ _) | (with_reducible refine Kd.C_drew ?_))); (case side4 => exact (Kd.N_reads' HO176.out).2.1); rintro e w58 ⟨v178, rfl, ho0, hb⟩; refine ⟨_, rfl, ?_⟩; have n0_ := Aside0.mk (Kd.R_elder' (by (with_reducible repeat (first | apply Kd.R_alloc | apply Kd.R_drewN | apply Kd.R_drew)); exact HO161.out) (Kd.R_base ho0) hb); have n1_ := Aside0.mk (Kd.N_elder' (by (with_reducible repeat (first | apply Kd.N_alloc | apply Kd.N_drewN | apply Kd.N_drew)); exact HO164.out) (Kd.R_base ho0) hb); have n2_ := Aside0.mk (Kd.R_below (by (with_reducible repeat (first | apply Kd.R_alloc | apply Kd.R_drewN | apply Kd.R_drew)); exact HO167.out) hb); have n3_ := Aside0.mk (Kd.R_elder' (by (with_reducible repeat (first | apply Kd.R_alloc | apply Kd.R_drewN | apply Kd.R_drew)); exact HO173.out) (Kd.R_base ho0) hb); have n4_ := Aside0.mk (Kd.N_elder' (by (with_reducible repeat (first | apply Kd.N_alloc | apply Kd.N_drewN | apply Kd.N_drew)); exact HO176.out) (Kd.R_base ho0) hb); have n5_ := Aside0.mk (Kd.R_lower (Kd.R_new' (Kd.R_new' ho0 (Kd.R_lt (by (with_reducible repeat (first | apply Kd.R_alloc | apply Kd.R_drewN | apply Kd.R_drew)); exact HO161.out))) (Kd.R_lt (by (with_reducible repeat (first | apply Kd.R_alloc | apply Kd.R_drewN | apply Kd.R_drew)); exact HO173.out))) (below_size (by repeat (first | (with_reducible first | exact HB.out | apply below_alloc | apply pw_below_drewN | apply below_drew1) | exact HB.out)))); have n6_ := Aside0.mk (below_step (by repeat (first | (with_reducible first | exact HB.out | apply below_alloc | apply pw_below_drewN | apply below_drew1) | exact HB.out)) hb); clear HO161; clear HO164; clear HO167; clear HO173; clear HO176; clear HB; have HO161 := n0_; have HO164 := n1_; have HO167 := n2_; have HO173 := n3_; have HO176 := n4_; have HO179 := n5_; have HB := n6_; clear n0_ n1_ n2_ n3_ n4_ n5_ n6_; (try clear hb); (try clear hb2); (try clear hk); (try clear hi); (try clear ho0)))
    go_ret
    exact ⟨by first | rfl | (simp [errW_none, errW_some] <;> rfl) | (simp [*, errW_none, errW_some] <;> rfl), by repeat (first | (with_reducible first | exact HB.out | apply below_alloc | apply pw_below_drewN | apply below_drew1) | exact HB.out)⟩

/-! ### empty_Ends_1: function 44 -/
def isEnds (s : S59) (m : List Bool) : Bool := s.f0 || rdOf false m s.f1
set_option maxHeartbeats 2000000 in
theorem empty_ends1 (n : Nat) (w : World) : IsK 44 #[] isEnds n w := by
  intro W s m A c hb hs hn hC hc
  obtain ⟨tok, x⟩ := s
  show Calls Try.prog 44 #[.agg #[.bool tok, .int .i64 x], .slice A m.length c] W fun e w' => e = .returned (.bool (tok || rdOf false m x)) ∧ Below W.heap.size W w'
  cases tok with
  | true =>
    clear hC
    go_enter Try.func44, Try.ntmps44
    go_wp2_with fail
    go_ret
    exact ⟨rfl, below_alloc (Below.refl _ _) _⟩
  | false =>
    obtain ⟨x0, x1⟩ := hs rfl
    obtain ⟨ad, hA, hx⟩ := Kd.at_bool hC x x0 (by show x < (m.length : Int); rw [hn]; exact x1)
    subst hA
    have x1' : x < (m.length : Int) := by rw [hn]; exact x1
    have hx0 : (0 : Int) ≤ x := x0
    have hnew := World.block_lt_of_cell? W _ hx
    clear hC x1 hn hs
    have hx' := hx
    generalize rdOf false m x = q at hx hx'
    go_enter Try.func44, Try.ntmps44
    go_wp2_with fail
    go_ret
    exact ⟨by simp, below_alloc (Below.refl _ _) _⟩


/-! ### empty_Ends: function 17 -/
def empty_Ends.f (a0 a1 : Int) (l2 : List Int) (l3 : List S51) : Option (List Bool × Int) := empty_marksF isEnds a0 a1 l2 l3
set_option maxHeartbeats 2000000 in
theorem empty_Ends.calls (toks look : Int) (A2 : Option Addr) (c2 : Nat) (o : List Int) (A3 : Option Addr) (c3 : Nat) (L : List S51) (r1 : List Bool) (r2i : Int) (w : World)
    (r2 : Kd.C (Kd.int .i64) w A2 o.length o) (l2 : o.length ≤ c2) (r3 : Kd.C k51 w A3 L.length L) (l3 : L.length ≤ c3) (h : empty_Ends.f toks look o L = some (r1, r2i)) :
    Calls Try.prog 17 #[.agg #[.int .i64 toks, .int .i64 look, .slice A2 o.length c2, .slice A3 L.length c3]] w fun e w' => ∃ v0_ : Value, e = .returned (.tuple #[v0_, .int .i64 r2i]) ∧ Kd.R Kd.bool 4 w' w.heap.size (fun _ => True) v0_ r1 ∧ Below w.heap.size w w' := by
  have HM0 := fun (W : World) (hb : Below w.heap.size w W) => empty_marks_calls toks look A2 c2 o A3 c3 L 44 #[] isEnds r1 r2i W (Kd.C_below r2 hb) l2 (Kd.C_below r3 hb) l3 (fun n W => empty_ends1 n W) (fun args w => enters_ Try.func44 (by kernel_rfl) rfl args w) h
  have HM := Aside0.mk HM0
  clear r2 r3 h HM0
  go_enter Try.func17, Try.ntmps17
  go_wp2_with fail
  refine (HM.out _ (below_alloc (Below.refl _ _) _)).mono ?_
  rintro e w1 ⟨v, rfl, hr, hb⟩
  have HR := Aside0.mk (Kd.R_lower hr (below_size (below_alloc (Below.refl _ _) _)))
  have HB := Aside0.mk (below_step (below_alloc (Below.refl _ _) _) hb)
  clear hr hb HM
  go_wp2_with fail
  go_ret2
  exact ⟨_, rfl, HR.out, HB.out⟩


-- NOT PRINTED: function 46 (empty_Row_1)

/-! ### empty_Row: function 18 -/
def rowBad (m : List Bool) (s : S59) : Bool := s.f0 || (decide (s.f1 < 0) || (decide (s.f1 ≥ (m.length : Int)) || !rdOf false m s.f1))
def empty_Row.f (a0 a1 : Int) (l2 : List Int) (l3 : List S51) (l1 : List S59) : Option Bool :=
  (empty_marksF isNothing a0 a1 l2 l3).map fun p => decide (p.2 = 0) && !(l1.any (rowBad p.1))
set_option maxHeartbeats 2000000 in
theorem empty_row1 {gm c : Nat} {A : Option Addr} {m : List Bool} (w : World) (hm : w.cell? ⟨gm, 0, none⟩ = some (.slice A m.length c)) (hC : Kd.C Kd.bool w A m.length m) (hc : m.length ≤ c) :
    PredK Try.prog true k59 46 #[.pointer (some ⟨gm, 0, none⟩)] (rowBad m) (fun _ => True) w := by
  intro W s cs hb hK hs
  obtain rfl := k59_open hK
  have h1 := pw_cell_below hb hm
  have l1 := World.block_lt_of_cell? W _ h1
  have hC1 := Kd.C_below hC hb
  obtain ⟨tok, x⟩ := s
  clear hC hm hs hK
  show Calls Try.prog 46 #[.agg #[.bool tok, .int .i64 x], .pointer (some ⟨gm, 0, none⟩)] W fun e w' => e = .returned (.bool (tok || (decide (x < 0) || (decide (x ≥ (m.length : Int)) || !rdOf false m x)))) ∧ Below W.heap.size W w'
  have fin : ∀ q : Bool, (tok || (decide (x < 0) || (decide (x ≥ (m.length : Int)) || !rdOf false m x))) = q → Calls Try.prog 46 #[.agg #[.bool tok, .int .i64 x], .pointer (some ⟨gm, 0, none⟩)] W (fun e w' => e = .returned (.bool q) ∧ Below W.heap.size W w') := by
    intro q hq
    cases tok with
    | true =>
      have hq2 : q = true := by simpa using hq.symm
      subst hq2
      clear hC1 hq
      go_enter Try.func46, Try.ntmps46
      go_wp2_with fail
      go_ret
      exact ⟨rfl, below_alloc (Below.refl _ _) _⟩
    | false =>
      by_cases x0 : x < 0
      · have hq2 : q = true := by rw [← hq]; simp [x0]
        subst hq2
        have d0 : decide (x < 0) = true := decide_eq_true x0
        clear hC1 hq
        go_enter Try.func46, Try.ntmps46
        go_wp2_with fail
        go_ret
        exact ⟨rfl, below_alloc (Below.refl _ _) _⟩
      · have d0 : decide (x < 0) = false := decide_eq_false x0
        by_cases x1 : x ≥ (m.length : Int)
        · have hq2 : q = true := by rw [← hq]; simp [x1]
          subst hq2
          have d1 : decide (x ≥ (m.length : Int)) = true := decide_eq_true x1
          have d2 : decide ((m.length : Int) ≤ x) = true := decide_eq_true x1
          clear hC1 hq
          go_enter Try.func46, Try.ntmps46
          go_wp2_with fail
          go_ret
          exact ⟨rfl, below_alloc (Below.refl _ _) _⟩
        · have d1 : decide (x ≥ (m.length : Int)) = false := decide_eq_false x1
          have d2 : decide ((m.length : Int) ≤ x) = false := decide_eq_false x1
          have x0' : 0 ≤ x := by omega
          have x1' : x < (m.length : Int) := by omega
          obtain ⟨ad, hA, hx⟩ := Kd.at_bool hC1 x x0' x1'
          subst hA
          have hl := World.block_lt_of_cell? W _ hx
          have hq2 : q = !rdOf false m x := by rw [← hq, d0, d1]; rfl
          subst hq2
          clear hC1 hq x0 x1
          generalize rdOf false m x = b at hx
          go_enter Try.func46, Try.ntmps46
          go_wp2_with fail
          go_ret
          exact ⟨rfl, below_alloc (Below.refl _ _) _⟩
  exact fin _ rfl
set_option maxHeartbeats 4000000 in
theorem empty_Row.calls (toks look : Int) (A2 : Option Addr) (c2 : Nat) (o : List Int) (A3 : Option Addr) (c3 : Nat) (L : List S51) (A1 : Option Addr) (c1 : Nat) (l : List S59) (r : Bool) (w : World)
    (r2 : Kd.C (Kd.int .i64) w A2 o.length o) (l2 : o.length ≤ c2) (r3 : Kd.C k51 w A3 L.length L) (l3 : L.length ≤ c3) (r1 : Kd.C k59 w A1 l.length l) (l1 : l.length ≤ c1) (h : empty_Row.f toks look o L l = some r) :
    Calls Try.prog 18 #[.agg #[.int .i64 toks, .int .i64 look, .slice A2 o.length c2, .slice A3 L.length c3], .slice A1 l.length c1] w fun e w' => e = .returned (.bool r) ∧ Below w.heap.size w w' := by
  obtain ⟨⟨m, q⟩, hm, hr⟩ := Option.map_eq_some_iff.1 h
  have HM0 := fun (W : World) (hb : Below w.heap.size w W) => empty_Nothing.calls toks look A2 c2 o A3 c3 L m q W (Kd.C_below r2 hb) l2 (Kd.C_below r3 hb) l3 hm
  have HM := Aside0.mk HM0
  have HR1 := Aside0.mk r1
  have HL1 := Aside0.mk l1
  simp only at hr
  subst hr
  clear HM0 r1 l1 r2 r3 h hm
  go_enter Try.func18, Try.ntmps18
  go_wp2_with fail
  refine (HM.out _ (below_alloc (Below.refl _ _) _)).mono ?_
  rintro e w1 ⟨v, rfl, hr, hb⟩
  have HR := Aside0.mk (Kd.R_lower hr (below_size (below_alloc (Below.refl _ _) _)))
  have HB := Aside0.mk (below_step (below_alloc (Below.refl _ _) _) hb)
  obtain ⟨Av, cv, hv, hcv, hCv⟩ := Kd.R_reads hr
  subst hv
  have HCV := Aside0.mk hCv
  have HLV := Aside0.mk hcv
  clear hr hb HM hCv hcv
  have HB2 := Aside0.mk (below_alloc HB.out (.cells #[.slice Av m.length cv] 35))
  have HPC0 := api_Sym_45.calls A1 c1 l 46 #[.pointer (some ⟨w1.heap.size, 0, none⟩)] (rowBad m) (w1.alloc (.cells #[.slice Av m.length cv] 35)) (Kd.C_below HR1.out HB2.out) HL1.out
    (fun args w => enters_ Try.func46 (by kernel_rfl) rfl args w)
    (fun W2 s cs hb2 hK hs => empty_row1 (A := Av) (c := cv) (w1.alloc (.cells #[.slice Av m.length cv] 35)) ((blk_cell (hp_new rfl) 0).trans rfl) (Kd.C_below HCV.out (below_alloc (Below.refl _ _) _)) HLV.out W2 s cs hb2 hK trivial)
  have HPC := Aside0.mk HPC0
  clear HPC0
  by_cases hq : q = 0
  · have e1 : (q != 0) = false := by simp [hq]
    have e2 : decide (q ≠ 0) = false := by simp [hq]
    have e3 : decide (q = 0) = true := decide_eq_true hq
    clear hq
    go_wp2_with fail
    refine HPC.out.mono ?_
    rintro e w2 ⟨rfl, hb2⟩
    have HB3 := Aside0.mk (below_step HB2.out hb2)
    clear hb2
    go_wp2_with fail
    go_ret
    exact ⟨by rw [e3]; rfl, HB3.out⟩
  · have e1 : (q != 0) = true := bne_iff_ne.mpr hq
    have e2 : decide (q ≠ 0) = true := decide_eq_true hq
    have e3 : decide (q = 0) = false := decide_eq_false hq
    clear hq
    go_wp2_with fail
    go_ret
    exact ⟨by rw [e3]; rfl, HB2.out⟩


end Go.Proofs.Ytmpdilifoblnaaa.MEmptyTells
