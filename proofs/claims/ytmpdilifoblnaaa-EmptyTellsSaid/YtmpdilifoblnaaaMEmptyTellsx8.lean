-- A text of this claim (written by this repo's wip/myprint.py).
import Derived.Test.YtmpdilifoblnaaaMEmptyTellsx0
import Derived.Test.YtmpdilifoblnaaaMEmptyTellsx2
import Derived.Test.YtmpdilifoblnaaaMEmptyTellsx3
import Derived.Test.YtmpdilifoblnaaaMEmptyTellsx6
import Derived.Test.YtmpdilifoblnaaaMEmptyTellsx7
namespace Go.Proofs.Ytmpdilifoblnaaa.MEmptyTells
open Go.RowKit Go.Proofs.YtmpdilifoblnaaaW.PrintWords Go.Proofs.YtmpdilifoblnaaaW.PrintLast Go.Proofs.YtmpdilifoblnaaaW.PrintMore Go.Proofs.Ytmpdilifoblnaaa.Fun Go.Proofs.Ytmpdilifoblnaaa.Mem
attribute [local go_sem] max2_int min2_int max_two min_two max_three min_three max_four min_four   -- for this text's walks alone
set_option linter.unusedVariables false
set_option linter.unusedSimpArgs false

/-! ### gramaryeref10_Row: function 19 -/
def gramaryeref10_Row.l0 : Nat → List (S59) → Int → Int → Int → List Int → List (S51) → Option (Bool)
  | 0, _, _, _, _, _, _ => none
  | k + 1, x1, x5, x208000, x208001, x208002, x208003 => if x5 < (x1.length : Int) then (if 0 ≤ x5 then (if (rd_T59 x1 x5).f0 = true then (some false) else (if ((rd_T59 x1 x5).f1) < 0 then (some false) else (if ((rd_T59 x1 x5).f1) ≥ (x208002.length : Int) then (some false) else (gramaryeref10_Row.l0 k x1 (wrap64 (x5 + 1)) x208000 x208001 x208002 x208003)))) else (none)) else ((gramaryeref10_Nothing.f k x208000 x208001 x208002 x208003).bind fun t212 => ((gramaryeref10_row.f k x1 false t212).bind fun t215 => (some t215)))
def gramaryeref10_Row.f (k : Nat) (a0_0 : Int) (a0_1 : Int) (l0_2 : List Int) (l0_3 : List (S51)) (l1 : List (S59)) : Option (Bool) := (gramaryeref09_May.f k a0_0 a0_1 l0_2 l0_3).bind fun t208 => (if t208 = 0 then (gramaryeref10_Row.l0 k l1 0 a0_0 a0_1 l0_2 l0_3) else (some false))
theorem gramaryeref10_Row.mono_l : ∀ k, (∀ y0 y1 y2 y3 y4 y5, LeO (gramaryeref10_Row.l0 k y0 y1 y2 y3 y4 y5) (gramaryeref10_Row.l0 (k + 1) y0 y1 y2 y3 y4 y5))
  | 0 => fun _ _ _ _ _ _ r h => by simp [gramaryeref10_Row.l0] at h
  | k + 1 => by
    have ih0 := gramaryeref10_Row.mono_l k
    · intro y0 y1 y2 y3 y4 y5
      unfold gramaryeref10_Row.l0
      repeat' first
      | (with_reducible exact ih0 _ _ _ _ _ _)
      | (with_reducible exact gramaryeref09_May.mono _ _ _ _ _)
      | (with_reducible exact gramaryeref10_Nothing.mono _ _ _ _ _)
      | (with_reducible exact gramaryeref10_row.mono _ _ _ _)
      | (with_reducible exact LeO.refl _)
      | (with_reducible exact LeO.none _)
      | (with_reducible refine LeO.ite ?_ ?_)
      | (with_reducible refine LeO.bind ?_ (fun _ => ?_))
      | exact ih0 _ _ _ _ _ _
      | exact gramaryeref09_May.mono _ _ _ _ _
      | exact gramaryeref10_Nothing.mono _ _ _ _ _
      | exact gramaryeref10_row.mono _ _ _ _
      | exact LeO.none _
      | refine LeO.ite ?_ ?_
      | refine LeO.bind ?_ (fun _ => ?_)
theorem gramaryeref10_Row.mono : ∀ a0 a1 a2 a3 a4 k, LeO (gramaryeref10_Row.f k a0 a1 a2 a3 a4) (gramaryeref10_Row.f (k + 1) a0 a1 a2 a3 a4) := by
  intro a0 a1 a2 a3 a4 k
  have ih0 := gramaryeref10_Row.mono_l k
  unfold gramaryeref10_Row.f
  repeat' first
      | (with_reducible exact ih0 _ _ _ _ _ _)
      | (with_reducible exact gramaryeref09_May.mono _ _ _ _ _)
      | (with_reducible exact gramaryeref10_Nothing.mono _ _ _ _ _)
      | (with_reducible exact gramaryeref10_row.mono _ _ _ _)
      | (with_reducible exact LeO.refl _)
      | (with_reducible exact LeO.none _)
      | (with_reducible refine LeO.ite ?_ ?_)
      | (with_reducible refine LeO.bind ?_ (fun _ => ?_))
      | exact ih0 _ _ _ _ _ _
      | exact gramaryeref09_May.mono _ _ _ _ _
      | exact gramaryeref10_Nothing.mono _ _ _ _ _
      | exact gramaryeref10_row.mono _ _ _ _
      | exact LeO.none _
      | refine LeO.ite ?_ ?_
      | refine LeO.bind ?_ (fun _ => ?_)
set_option maxHeartbeats 8000000 in
set_option maxRecDepth 100000 in
theorem gramaryeref10_Row.calls (k : Nat) (a0_0 : Int) (a0_1 : Int) (A0_2 : Option Addr) (c0_2 : Nat) (l0_2 : List Int) (A0_3 : Option Addr) (c0_3 : Nat) (l0_3 : List (S51)) (A1 : Option Addr) (c1 : Nat) (l1 : List (S59)) (r : Bool) (w : World) (hr0_2 : Kd.C (Kd.int .i64) w A0_2 l0_2.length l0_2) (hc0_2 : l0_2.length ≤ c0_2) (hr0_3 : Kd.C k51 w A0_3 l0_3.length l0_3) (hc0_3 : l0_3.length ≤ c0_3) (hr1 : Kd.C k59 w A1 l1.length l1) (hc1 : l1.length ≤ c1) (h : gramaryeref10_Row.f k a0_0 a0_1 l0_2 l0_3 l1 = some r) :
    Calls Try.prog 19 #[.agg #[.int .i64 a0_0, .int .i64 a0_1, .slice A0_2 l0_2.length c0_2, .slice A0_3 l0_3.length c0_3], .slice A1 l1.length c1] w fun e w' => e = .returned (.bool r) ∧ Below w.heap.size w w' := by
  have hu25 := Try.underlying25
  have HR0_2 := Aside0.mk hr0_2
  have HC0_2 := Aside0.mk hc0_2
  clear hr0_2 hc0_2
  have HR0_3 := Aside0.mk hr0_3
  have HC0_3 := Aside0.mk hc0_3
  clear hr0_3 hc0_3
  have HR1 := Aside0.mk hr1
  have HC1 := Aside0.mk hc1
  clear hr1 hc1
  have HB := Aside0.mk (Below.refl w.heap.size w)
  have H : ((gramaryeref09_May.f k a0_0 a0_1 l0_2 l0_3).bind fun t208 => (if t208 = 0 then (gramaryeref10_Row.l0 k l1 0 a0_0 a0_1 l0_2 l0_3) else (some false))) = some r := h
  clear h
  replace H := Option.bind_eq_some_iff.mp H
  obtain ⟨t208, A30, H⟩ := H
  replace H : (if t208 = 0 then (gramaryeref10_Row.l0 k l1 0 a0_0 a0_1 l0_2 l0_3) else (some false)) = some r := H
  have A3 := Aside0.mk A30
  clear A30
  by_cases c4 : t208 = 0
  · rw [if_pos c4] at H
    have c4b0 : (t208 == 0) = true := beq_iff_eq.mpr c4
    have c4b1 : (t208 != 0) = false := bne_eq_false_iff_eq.mpr c4
    clear c4
    have H' := Aside0.mk H
    clear H
    go_enter Try.func19, Try.ntmps19
    go_wp2_with (first | ((with_reducible refine gate_dst (N := 2) rfl ?_); (try (refine gate_guard (by rfl) ?_; dsimp only)); refine box_event ?hg (N := 2) ?hd (cs := #[.int .i64 a0_0, .int .i64 a0_1, .slice A0_2 l0_2.length c0_2, .slice A0_3 l0_3.length c0_3]) (t := 25) ?hr ?_; (case hd => rfl); (case hg => rfl); (case hr => first | (go_simp; done) | (go_simp; rfl)); intro gb207 hg w5 hbox hb; have n0_ := Aside0.mk (below_step (by repeat (first | (with_reducible first | exact HB.out | apply below_alloc | apply pw_below_drewN | apply below_drew1) | exact HB.out)) hb); have n1_ := Aside0.mk (hbox); have n2_ := Aside0.mk ((by rw [hg]; exact (below_size (by repeat (first | (with_reducible first | exact HB.out | apply below_alloc | apply pw_below_drewN | apply below_drew1) | exact HB.out))) : w.heap.size ≤ gb207)); have n3_ := Aside0.mk ((by rw [hg]; exact (below_size (by repeat (first | (with_reducible first | exact HB.out | apply below_alloc | apply pw_below_drewN | apply below_drew1) | exact HB.out))) : w.heap.size ≤ gb207)); clear HB; have HB := n0_; have BK207 := n1_; have GW207 := n2_; have GE207 := n3_; clear n0_ n1_ n2_ n3_; clear hb hbox hg; have hcz6_0 : w5.cell? ⟨gb207, 0, none⟩ = some (.int .i64 a0_0) := (blk_cell BK207.out 0).trans rfl; have hcz6_1 : w5.cell? ⟨gb207, 1, none⟩ = some (.int .i64 a0_1) := (blk_cell BK207.out 1).trans rfl; have hcz6_2 : w5.cell? ⟨gb207, 2, none⟩ = some (.slice A0_2 l0_2.length c0_2) := (blk_cell BK207.out 2).trans rfl; have hcz6_3 : w5.cell? ⟨gb207, 3, none⟩ = some (.slice A0_3 l0_3.length c0_3) := (blk_cell BK207.out 3).trans rfl; have hfz6_0 := blk_frozen BK207.out 0; have hfz6_1 := blk_frozen BK207.out 1; have hfz6_2 := blk_frozen BK207.out 2; have hfz6_3 := blk_frozen BK207.out 3) | (go_at_call 12; (with_reducible refine (gramaryeref09_May.calls k a0_0 a0_1 _ _ l0_2 _ _ l0_3 t208 _ ?side1 ?side2 ?side3 ?side4 A3.out).mono ?_); (case side1 => repeat (first | exact (Kd.C_below HR0_2.out HB.out) | (with_reducible refine Kd.C_alloc ?_ _) | (with_reducible refine Kd.C_drewN ?_ _) | (with_reducible refine Kd.C_drew ?_))); (case side2 => exact HC0_2.out); (case side3 => repeat (first | exact (Kd.C_below HR0_3.out HB.out) | (with_reducible refine Kd.C_alloc ?_ _) | (with_reducible refine Kd.C_drewN ?_ _) | (with_reducible refine Kd.C_drew ?_))); (case side4 => exact HC0_3.out); rintro e w7 ⟨rfl, hb⟩; have n0_ := Aside0.mk (blk_below (g := gb207) (o := .cells #[.int .i64 a0_0, .int .i64 a0_1, .slice A0_2 l0_2.length c0_2, .slice A0_3 l0_3.length c0_3] 25 (0, 0)) (by (with_reducible repeat (first | refine blk_drewN ?_ _ | refine blk_drew ?_ | refine blk_alloc ?_ _)); exact BK207.out) hb); have n1_ := Aside0.mk (below_step (by repeat (first | (with_reducible first | exact HB.out | apply below_alloc | apply pw_below_drewN | apply below_drew1 | refine below_set ?_ GE207.out) | exact HB.out)) hb); clear BK207; clear HB; have BK207 := n0_; have HB := n1_; clear n0_ n1_; (try clear hb); (try clear hb2); (try clear hk); (try clear hi)))
    repeat (go_quiet (first | ((with_reducible refine gate_dst (N := 2) rfl ?_); (try (refine gate_guard (by rfl) ?_; dsimp only)); refine box_event ?hg (N := 2) ?hd (cs := #[.int .i64 a0_0, .int .i64 a0_1, .slice A0_2 l0_2.length c0_2, .slice A0_3 l0_3.length c0_3]) (t := 25) ?hr ?_; (case hd => rfl); (case hg => rfl); (case hr => first | (go_simp; done) | (go_simp; rfl)); intro gb207 hg w5 hbox hb; have n0_ := Aside0.mk (below_step (by repeat (first | (with_reducible first | exact HB.out | apply below_alloc | apply pw_below_drewN | apply below_drew1) | exact HB.out)) hb); have n1_ := Aside0.mk (hbox); have n2_ := Aside0.mk ((by rw [hg]; exact (below_size (by repeat (first | (with_reducible first | exact HB.out | apply below_alloc | apply pw_below_drewN | apply below_drew1) | exact HB.out))) : w.heap.size ≤ gb207)); have n3_ := Aside0.mk ((by rw [hg]; exact (below_size (by repeat (first | (with_reducible first | exact HB.out | apply below_alloc | apply pw_below_drewN | apply below_drew1) | exact HB.out))) : w.heap.size ≤ gb207)); clear HB; have HB := n0_; have BK207 := n1_; have GW207 := n2_; have GE207 := n3_; clear n0_ n1_ n2_ n3_; clear hb hbox hg; have hcz6_0 : w5.cell? ⟨gb207, 0, none⟩ = some (.int .i64 a0_0) := (blk_cell BK207.out 0).trans rfl; have hcz6_1 : w5.cell? ⟨gb207, 1, none⟩ = some (.int .i64 a0_1) := (blk_cell BK207.out 1).trans rfl; have hcz6_2 : w5.cell? ⟨gb207, 2, none⟩ = some (.slice A0_2 l0_2.length c0_2) := (blk_cell BK207.out 2).trans rfl; have hcz6_3 : w5.cell? ⟨gb207, 3, none⟩ = some (.slice A0_3 l0_3.length c0_3) := (blk_cell BK207.out 3).trans rfl; have hfz6_0 := blk_frozen BK207.out 0; have hfz6_1 := blk_frozen BK207.out 1; have hfz6_2 := blk_frozen BK207.out 2; have hfz6_3 := blk_frozen BK207.out 3) | (go_at_call 12; (with_reducible refine (gramaryeref09_May.calls k a0_0 a0_1 _ _ l0_2 _ _ l0_3 t208 _ ?side1 ?side2 ?side3 ?side4 A3.out).mono ?_); (case side1 => repeat (first | exact (Kd.C_below HR0_2.out HB.out) | (with_reducible refine Kd.C_alloc ?_ _) | (with_reducible refine Kd.C_drewN ?_ _) | (with_reducible refine Kd.C_drew ?_))); (case side2 => exact HC0_2.out); (case side3 => repeat (first | exact (Kd.C_below HR0_3.out HB.out) | (with_reducible refine Kd.C_alloc ?_ _) | (with_reducible refine Kd.C_drewN ?_ _) | (with_reducible refine Kd.C_drew ?_))); (case side4 => exact HC0_3.out); rintro e w7 ⟨rfl, hb⟩; have n0_ := Aside0.mk (blk_below (g := gb207) (o := .cells #[.int .i64 a0_0, .int .i64 a0_1, .slice A0_2 l0_2.length c0_2, .slice A0_3 l0_3.length c0_3] 25 (0, 0)) (by (with_reducible repeat (first | refine blk_drewN ?_ _ | refine blk_drew ?_ | refine blk_alloc ?_ _)); exact BK207.out) hb); have n1_ := Aside0.mk (below_step (by repeat (first | (with_reducible first | exact HB.out | apply below_alloc | apply pw_below_drewN | apply below_drew1 | refine below_set ?_ GE207.out) | exact HB.out)) hb); clear BK207; clear HB; have BK207 := n0_; have HB := n1_; clear n0_ n1_; (try clear hb); (try clear hb2); (try clear hk); (try clear hi))); try go_wp2_with (first | ((with_reducible refine gate_dst (N := 2) rfl ?_); (try (refine gate_guard (by rfl) ?_; dsimp only)); refine box_event ?hg (N := 2) ?hd (cs := #[.int .i64 a0_0, .int .i64 a0_1, .slice A0_2 l0_2.length c0_2, .slice A0_3 l0_3.length c0_3]) (t := 25) ?hr ?_; (case hd => rfl); (case hg => rfl); (case hr => first | (go_simp; done) | (go_simp; rfl)); intro gb207 hg w5 hbox hb; have n0_ := Aside0.mk (below_step (by repeat (first | (with_reducible first | exact HB.out | apply below_alloc | apply pw_below_drewN | apply below_drew1) | exact HB.out)) hb); have n1_ := Aside0.mk (hbox); have n2_ := Aside0.mk ((by rw [hg]; exact (below_size (by repeat (first | (with_reducible first | exact HB.out | apply below_alloc | apply pw_below_drewN | apply below_drew1) | exact HB.out))) : w.heap.size ≤ gb207)); have n3_ := Aside0.mk ((by rw [hg]; exact (below_size (by repeat (first | (with_reducible first | exact HB.out | apply below_alloc | apply pw_below_drewN | apply below_drew1) | exact HB.out))) : w.heap.size ≤ gb207)); clear HB; have HB := n0_; have BK207 := n1_; have GW207 := n2_; have GE207 := n3_; clear n0_ n1_ n2_ n3_; clear hb hbox hg; have hcz6_0 : w5.cell? ⟨gb207, 0, none⟩ = some (.int .i64 a0_0) := (blk_cell BK207.out 0).trans rfl; have hcz6_1 : w5.cell? ⟨gb207, 1, none⟩ = some (.int .i64 a0_1) := (blk_cell BK207.out 1).trans rfl; have hcz6_2 : w5.cell? ⟨gb207, 2, none⟩ = some (.slice A0_2 l0_2.length c0_2) := (blk_cell BK207.out 2).trans rfl; have hcz6_3 : w5.cell? ⟨gb207, 3, none⟩ = some (.slice A0_3 l0_3.length c0_3) := (blk_cell BK207.out 3).trans rfl; have hfz6_0 := blk_frozen BK207.out 0; have hfz6_1 := blk_frozen BK207.out 1; have hfz6_2 := blk_frozen BK207.out 2; have hfz6_3 := blk_frozen BK207.out 3) | (go_at_call 12; (with_reducible refine (gramaryeref09_May.calls k a0_0 a0_1 _ _ l0_2 _ _ l0_3 t208 _ ?side1 ?side2 ?side3 ?side4 A3.out).mono ?_); (case side1 => repeat (first | exact (Kd.C_below HR0_2.out HB.out) | (with_reducible refine Kd.C_alloc ?_ _) | (with_reducible refine Kd.C_drewN ?_ _) | (with_reducible refine Kd.C_drew ?_))); (case side2 => exact HC0_2.out); (case side3 => repeat (first | exact (Kd.C_below HR0_3.out HB.out) | (with_reducible refine Kd.C_alloc ?_ _) | (with_reducible refine Kd.C_drewN ?_ _) | (with_reducible refine Kd.C_drew ?_))); (case side4 => exact HC0_3.out); rintro e w7 ⟨rfl, hb⟩; have n0_ := Aside0.mk (blk_below (g := gb207) (o := .cells #[.int .i64 a0_0, .int .i64 a0_1, .slice A0_2 l0_2.length c0_2, .slice A0_3 l0_3.length c0_3] 25 (0, 0)) (by (with_reducible repeat (first | refine blk_drewN ?_ _ | refine blk_drew ?_ | refine blk_alloc ?_ _)); exact BK207.out) hb); have n1_ := Aside0.mk (below_step (by repeat (first | (with_reducible first | exact HB.out | apply below_alloc | apply pw_below_drewN | apply below_drew1 | refine below_set ?_ GE207.out) | exact HB.out)) hb); clear BK207; clear HB; have BK207 := n0_; have HB := n1_; clear n0_ n1_; (try clear hb); (try clear hb2); (try clear hk); (try clear hi))))
    (try (with_reducible (show Code.wp _ _ _ (Act.put _ _ _) _); go_simp))
    go_loopg [5] k (fun kq v5 w' => ∃ (x5_1 : Int), v5 = .int .i64 x5_1 ∧ Aside0 (gramaryeref10_Row.l0 kq l1 x5_1 a0_0 a0_1 l0_2 l0_3 = some r) ∧ Aside0 (kq ≤ k) ∧ Aside0 (w'.heap[gb207]? = some (.cells #[.int .i64 a0_0, .int .i64 a0_1, (.slice A0_2 l0_2.length c0_2), (.slice A0_3 l0_3.length c0_3)] 25 (0, 0))) ∧ Aside0 (Below w.heap.size w w'))
    case atStart => exact ⟨(0), (by first | rfl | (simp; done) | (simp [*]; done)), H', ⟨Nat.le_refl _⟩, ⟨by (with_reducible repeat (first | refine blk_drewN ?_ _ | refine blk_drew ?_ | refine blk_alloc ?_ _)); exact BK207.out⟩, ⟨by repeat (first | (with_reducible first | exact HB.out | apply below_alloc | apply pw_below_drewN | apply below_drew1 | refine below_set ?_ GE207.out) | exact HB.out)⟩⟩
    case round =>
      clear H'
      try clear c1
      try clear p2
      try clear c4
      try clear c4b0
      try clear c4b1
      try clear hcz6_0
      try clear hcz6_1
      try clear hcz6_2
      try clear hcz6_3
      try clear hfz6_0
      try clear hfz6_1
      try clear hfz6_2
      try clear hfz6_3
      obtain ⟨x5_1, rfl, HA, HK1, BK207, HB⟩ := hrel
      cases gk with
      | zero => exact absurd HA.out (by simp [gramaryeref10_Row.l0])
      | succ k1 =>
        have H := HA.out
        clear HA
        simp only [gramaryeref10_Row.l0] at H
        by_cases c8 : x5_1 < (l1.length : Int)
        · rw [if_pos c8] at H
          have c8b0 : decide (x5_1 < (l1.length : Int)) = true := decide_eq_true c8
          clear c8
          by_cases c9 : 0 ≤ x5_1
          · rw [if_pos c9] at H
            have c9b0 : decide (0 ≤ x5_1) = true := decide_eq_true c9
            clear c9
            obtain ⟨bq10, hbq10⟩ : ∃ b_ : Bool, b_ = ((rd_T59 l1 x5_1).f0) := ⟨_, rfl⟩
            replace H : (if bq10 = true then (some false) else (if ((rd_T59 l1 x5_1).f1) < 0 then (some false) else (if ((rd_T59 l1 x5_1).f1) ≥ (l0_2.length : Int) then (some false) else (gramaryeref10_Row.l0 k1 l1 (wrap64 (x5_1 + 1)) a0_0 a0_1 l0_2 l0_3)))) = some r := by rw [← hbq10] at H; exact H
            have Nbq10 := Aside0.mk hbq10
            clear hbq10
            by_cases c11 : bq10 = true
            · subst c11
              have H1 : (some false) = some r := by rw [if_pos rfl] at H; exact H
              clear H
              have H := H1
              clear H1
              obtain rfl := Option.some.inj H
              have p209 : 0 ≤ (x5_1 : Int) := of_decide_eq_true (by first | (with_reducible assumption) | assumption)
              have q209 : x5_1 < (l1.length : Int) := of_decide_eq_true (by first | (with_reducible assumption) | assumption)
              obtain ⟨ad209, e209, hx209_0, hx209_1⟩ := at_T59 HR1.out x5_1 p209 q209
              (try rw [← Nbq10.out] at hx209_0)
              cases e209
              have Nhx209_0 := Aside0.mk hx209_0; replace hx209_0 := (HB.out.cell (World.block_lt_of_cell? w _ hx209_0)).trans hx209_0
              have Nhx209_1 := Aside0.mk hx209_1; replace hx209_1 := (HB.out.cell (World.block_lt_of_cell? w _ hx209_1)).trans hx209_1
              replace p209 := eq_true p209
              replace q209 := eq_true q209
              go_wp2
              repeat (go_quiet (fail); try go_wp2)
              go_ret
              exact ⟨by first | rfl | (simp [errW_none, errW_some] <;> rfl) | (simp [*, errW_none, errW_some] <;> rfl), by repeat (first | (with_reducible first | exact HB.out | apply below_alloc | apply pw_below_drewN | apply below_drew1 | refine below_set ?_ GE207.out) | exact HB.out)⟩
            · replace c11 := Bool.eq_false_iff.mpr c11
              subst c11
              have H1 : (if ((rd_T59 l1 x5_1).f1) < 0 then (some false) else (if ((rd_T59 l1 x5_1).f1) ≥ (l0_2.length : Int) then (some false) else (gramaryeref10_Row.l0 k1 l1 (wrap64 (x5_1 + 1)) a0_0 a0_1 l0_2 l0_3))) = some r := by rw [if_neg (show ¬ (false = true) by decide)] at H; exact H
              clear H
              have H := H1
              clear H1
              by_cases c12 : ((rd_T59 l1 x5_1).f1) < 0
              · rw [if_pos c12] at H
                have c12b0 : decide (((rd_T59 l1 x5_1).f1) < 0) = true := decide_eq_true c12
                clear c12
                obtain rfl := Option.some.inj H
                have p209 : 0 ≤ (x5_1 : Int) := of_decide_eq_true (by first | (with_reducible assumption) | assumption)
                have q209 : x5_1 < (l1.length : Int) := of_decide_eq_true (by first | (with_reducible assumption) | assumption)
                obtain ⟨ad209, e209, hx209_0, hx209_1⟩ := at_T59 HR1.out x5_1 p209 q209
                (try rw [← Nbq10.out] at hx209_0)
                cases e209
                have Nhx209_0 := Aside0.mk hx209_0; replace hx209_0 := (HB.out.cell (World.block_lt_of_cell? w _ hx209_0)).trans hx209_0
                have Nhx209_1 := Aside0.mk hx209_1; replace hx209_1 := (HB.out.cell (World.block_lt_of_cell? w _ hx209_1)).trans hx209_1
                replace p209 := eq_true p209
                replace q209 := eq_true q209
                have p210 : 0 ≤ (x5_1 : Int) := of_decide_eq_true (by first | (with_reducible assumption) | assumption)
                have q210 : x5_1 < (l1.length : Int) := of_decide_eq_true (by first | (with_reducible assumption) | assumption)
                obtain ⟨ad210, e210, hx210_0, hx210_1⟩ := at_T59 HR1.out x5_1 p210 q210
                (try rw [← Nbq10.out] at hx210_0)
                obtain rfl : ad209 = ad210 := (by injection e210)
                have Nhx210_0 := Aside0.mk hx210_0; replace hx210_0 := (HB.out.cell (World.block_lt_of_cell? w _ hx210_0)).trans hx210_0
                have Nhx210_1 := Aside0.mk hx210_1; replace hx210_1 := (HB.out.cell (World.block_lt_of_cell? w _ hx210_1)).trans hx210_1
                replace p210 := eq_true p210
                replace q210 := eq_true q210
                go_wp2
                repeat (go_quiet (fail); try go_wp2)
                go_ret
                exact ⟨by first | rfl | (simp [errW_none, errW_some] <;> rfl) | (simp [*, errW_none, errW_some] <;> rfl), by repeat (first | (with_reducible first | exact HB.out | apply below_alloc | apply pw_below_drewN | apply below_drew1 | refine below_set ?_ GE207.out) | exact HB.out)⟩
              · rw [if_neg c12] at H
                have c12b0 : decide (((rd_T59 l1 x5_1).f1) < 0) = false := decide_eq_false c12
                clear c12
                by_cases c13 : ((rd_T59 l1 x5_1).f1) ≥ (l0_2.length : Int)
                · rw [if_pos c13] at H
                  have c13b0 : decide ((l0_2.length : Int) ≤ ((rd_T59 l1 x5_1).f1)) = true := decide_eq_true c13
                  clear c13
                  obtain rfl := Option.some.inj H
                  have p209 : 0 ≤ (x5_1 : Int) := of_decide_eq_true (by first | (with_reducible assumption) | assumption)
                  have q209 : x5_1 < (l1.length : Int) := of_decide_eq_true (by first | (with_reducible assumption) | assumption)
                  obtain ⟨ad209, e209, hx209_0, hx209_1⟩ := at_T59 HR1.out x5_1 p209 q209
                  (try rw [← Nbq10.out] at hx209_0)
                  cases e209
                  have Nhx209_0 := Aside0.mk hx209_0; replace hx209_0 := (HB.out.cell (World.block_lt_of_cell? w _ hx209_0)).trans hx209_0
                  have Nhx209_1 := Aside0.mk hx209_1; replace hx209_1 := (HB.out.cell (World.block_lt_of_cell? w _ hx209_1)).trans hx209_1
                  replace p209 := eq_true p209
                  replace q209 := eq_true q209
                  have p210 : 0 ≤ (x5_1 : Int) := of_decide_eq_true (by first | (with_reducible assumption) | assumption)
                  have q210 : x5_1 < (l1.length : Int) := of_decide_eq_true (by first | (with_reducible assumption) | assumption)
                  obtain ⟨ad210, e210, hx210_0, hx210_1⟩ := at_T59 HR1.out x5_1 p210 q210
                  (try rw [← Nbq10.out] at hx210_0)
                  obtain rfl : ad209 = ad210 := (by injection e210)
                  have Nhx210_0 := Aside0.mk hx210_0; replace hx210_0 := (HB.out.cell (World.block_lt_of_cell? w _ hx210_0)).trans hx210_0
                  have Nhx210_1 := Aside0.mk hx210_1; replace hx210_1 := (HB.out.cell (World.block_lt_of_cell? w _ hx210_1)).trans hx210_1
                  replace p210 := eq_true p210
                  replace q210 := eq_true q210
                  have p211 : 0 ≤ (x5_1 : Int) := of_decide_eq_true (by first | (with_reducible assumption) | assumption)
                  have q211 : x5_1 < (l1.length : Int) := of_decide_eq_true (by first | (with_reducible assumption) | assumption)
                  obtain ⟨ad211, e211, hx211_0, hx211_1⟩ := at_T59 HR1.out x5_1 p211 q211
                  (try rw [← Nbq10.out] at hx211_0)
                  obtain rfl : ad209 = ad211 := (by injection e211)
                  have Nhx211_0 := Aside0.mk hx211_0; replace hx211_0 := (HB.out.cell (World.block_lt_of_cell? w _ hx211_0)).trans hx211_0
                  have Nhx211_1 := Aside0.mk hx211_1; replace hx211_1 := (HB.out.cell (World.block_lt_of_cell? w _ hx211_1)).trans hx211_1
                  replace p211 := eq_true p211
                  replace q211 := eq_true q211
                  have hcz14_0 : wr.cell? ⟨gb207, 0, none⟩ = some (.int .i64 a0_0) := (blk_cell BK207.out 0).trans rfl
                  have hcz14_1 : wr.cell? ⟨gb207, 1, none⟩ = some (.int .i64 a0_1) := (blk_cell BK207.out 1).trans rfl
                  have hcz14_2 : wr.cell? ⟨gb207, 2, none⟩ = some (.slice A0_2 l0_2.length c0_2) := (blk_cell BK207.out 2).trans rfl
                  have hcz14_3 : wr.cell? ⟨gb207, 3, none⟩ = some (.slice A0_3 l0_3.length c0_3) := (blk_cell BK207.out 3).trans rfl
                  have hfz14_0 := blk_frozen BK207.out 0
                  have hfz14_1 := blk_frozen BK207.out 1
                  have hfz14_2 := blk_frozen BK207.out 2
                  have hfz14_3 := blk_frozen BK207.out 3
                  go_wp2
                  repeat (go_quiet (fail); try go_wp2)
                  go_ret
                  exact ⟨by first | rfl | (simp [errW_none, errW_some] <;> rfl) | (simp [*, errW_none, errW_some] <;> rfl), by repeat (first | (with_reducible first | exact HB.out | apply below_alloc | apply pw_below_drewN | apply below_drew1 | refine below_set ?_ GE207.out) | exact HB.out)⟩
                · rw [if_neg c13] at H
                  have c13b0 : decide ((l0_2.length : Int) ≤ ((rd_T59 l1 x5_1).f1)) = false := decide_eq_false c13
                  clear c13
                  have H' := Aside0.mk H
                  clear H
                  have p209 : 0 ≤ (x5_1 : Int) := of_decide_eq_true (by first | (with_reducible assumption) | assumption)
                  have q209 : x5_1 < (l1.length : Int) := of_decide_eq_true (by first | (with_reducible assumption) | assumption)
                  obtain ⟨ad209, e209, hx209_0, hx209_1⟩ := at_T59 HR1.out x5_1 p209 q209
                  (try rw [← Nbq10.out] at hx209_0)
                  cases e209
                  have Nhx209_0 := Aside0.mk hx209_0; replace hx209_0 := (HB.out.cell (World.block_lt_of_cell? w _ hx209_0)).trans hx209_0
                  have Nhx209_1 := Aside0.mk hx209_1; replace hx209_1 := (HB.out.cell (World.block_lt_of_cell? w _ hx209_1)).trans hx209_1
                  replace p209 := eq_true p209
                  replace q209 := eq_true q209
                  have p210 : 0 ≤ (x5_1 : Int) := of_decide_eq_true (by first | (with_reducible assumption) | assumption)
                  have q210 : x5_1 < (l1.length : Int) := of_decide_eq_true (by first | (with_reducible assumption) | assumption)
                  obtain ⟨ad210, e210, hx210_0, hx210_1⟩ := at_T59 HR1.out x5_1 p210 q210
                  (try rw [← Nbq10.out] at hx210_0)
                  obtain rfl : ad209 = ad210 := (by injection e210)
                  have Nhx210_0 := Aside0.mk hx210_0; replace hx210_0 := (HB.out.cell (World.block_lt_of_cell? w _ hx210_0)).trans hx210_0
                  have Nhx210_1 := Aside0.mk hx210_1; replace hx210_1 := (HB.out.cell (World.block_lt_of_cell? w _ hx210_1)).trans hx210_1
                  replace p210 := eq_true p210
                  replace q210 := eq_true q210
                  have p211 : 0 ≤ (x5_1 : Int) := of_decide_eq_true (by first | (with_reducible assumption) | assumption)
                  have q211 : x5_1 < (l1.length : Int) := of_decide_eq_true (by first | (with_reducible assumption) | assumption)
                  obtain ⟨ad211, e211, hx211_0, hx211_1⟩ := at_T59 HR1.out x5_1 p211 q211
                  (try rw [← Nbq10.out] at hx211_0)
                  obtain rfl : ad209 = ad211 := (by injection e211)
                  have Nhx211_0 := Aside0.mk hx211_0; replace hx211_0 := (HB.out.cell (World.block_lt_of_cell? w _ hx211_0)).trans hx211_0
                  have Nhx211_1 := Aside0.mk hx211_1; replace hx211_1 := (HB.out.cell (World.block_lt_of_cell? w _ hx211_1)).trans hx211_1
                  replace p211 := eq_true p211
                  replace q211 := eq_true q211
                  have hcz15_0 : wr.cell? ⟨gb207, 0, none⟩ = some (.int .i64 a0_0) := (blk_cell BK207.out 0).trans rfl
                  have hcz15_1 : wr.cell? ⟨gb207, 1, none⟩ = some (.int .i64 a0_1) := (blk_cell BK207.out 1).trans rfl
                  have hcz15_2 : wr.cell? ⟨gb207, 2, none⟩ = some (.slice A0_2 l0_2.length c0_2) := (blk_cell BK207.out 2).trans rfl
                  have hcz15_3 : wr.cell? ⟨gb207, 3, none⟩ = some (.slice A0_3 l0_3.length c0_3) := (blk_cell BK207.out 3).trans rfl
                  have hfz15_0 := blk_frozen BK207.out 0
                  have hfz15_1 := blk_frozen BK207.out 1
                  have hfz15_2 := blk_frozen BK207.out 2
                  have hfz15_3 := blk_frozen BK207.out 3
                  go_wp2
                  repeat (go_quiet (fail); try go_wp2)
                  go_roundg k1
                  case measure => have := HK1.out; omega
                  case rel => exact ⟨(wrap64 (x5_1 + 1)), (by first | rfl | (simp; done) | (simp [*]; done)), H', ⟨by have := HK1.out; omega⟩, ⟨by (with_reducible repeat (first | refine blk_drewN ?_ _ | refine blk_drew ?_ | refine blk_alloc ?_ _)); exact BK207.out⟩, ⟨by repeat (first | (with_reducible first | exact HB.out | apply below_alloc | apply pw_below_drewN | apply below_drew1 | refine below_set ?_ GE207.out) | exact HB.out)⟩⟩
          · rw [if_neg c9] at H
            exact absurd H (by simp)
        · rw [if_neg c8] at H
          have c8b0 : decide (x5_1 < (l1.length : Int)) = false := decide_eq_false c8
          clear c8
          replace H := Option.bind_eq_some_iff.mp H
          obtain ⟨t212, A160, H⟩ := H
          replace H : ((gramaryeref10_row.f k1 l1 false t212).bind fun t215 => (some t215)) = some r := H
          have A16 := Aside0.mk A160
          clear A160
          replace H := Option.bind_eq_some_iff.mp H
          obtain ⟨t215, A170, H⟩ := H
          replace H : (some t215) = some r := H
          have A17 := Aside0.mk A170
          clear A170
          obtain rfl := Option.some.inj H
          have hcz18_0 : wr.cell? ⟨gb207, 0, none⟩ = some (.int .i64 a0_0) := (blk_cell BK207.out 0).trans rfl
          have hcz18_1 : wr.cell? ⟨gb207, 1, none⟩ = some (.int .i64 a0_1) := (blk_cell BK207.out 1).trans rfl
          have hcz18_2 : wr.cell? ⟨gb207, 2, none⟩ = some (.slice A0_2 l0_2.length c0_2) := (blk_cell BK207.out 2).trans rfl
          have hcz18_3 : wr.cell? ⟨gb207, 3, none⟩ = some (.slice A0_3 l0_3.length c0_3) := (blk_cell BK207.out 3).trans rfl
          have hfz18_0 := blk_frozen BK207.out 0
          have hfz18_1 := blk_frozen BK207.out 1
          have hfz18_2 := blk_frozen BK207.out 2
          have hfz18_3 := blk_frozen BK207.out 3
          go_wp2_with (first | (go_at_call 21; (with_reducible refine (gramaryeref10_Nothing.calls k1 a0_0 a0_1 _ _ l0_2 _ _ l0_3 t212 _ ?side1 ?side2 ?side3 ?side4 A16.out).mono ?_); (case side1 => repeat (first | exact (Kd.C_below HR0_2.out HB.out) | (with_reducible refine Kd.C_alloc ?_ _) | (with_reducible refine Kd.C_drewN ?_ _) | (with_reducible refine Kd.C_drew ?_))); (case side2 => exact HC0_2.out); (case side3 => repeat (first | exact (Kd.C_below HR0_3.out HB.out) | (with_reducible refine Kd.C_alloc ?_ _) | (with_reducible refine Kd.C_drewN ?_ _) | (with_reducible refine Kd.C_drew ?_))); (case side4 => exact HC0_3.out); rintro e w19 ⟨v213, rfl, ho0, hb⟩; have n0_ := Aside0.mk (Kd.R_lower ho0 (below_size (by repeat (first | (with_reducible first | exact HB.out | apply below_alloc | apply pw_below_drewN | apply below_drew1 | refine below_set ?_ GE207.out) | exact HB.out)))); have n1_ := Aside0.mk (blk_below (g := gb207) (o := .cells #[.int .i64 a0_0, .int .i64 a0_1, .slice A0_2 l0_2.length c0_2, .slice A0_3 l0_3.length c0_3] 25 (0, 0)) (by (with_reducible repeat (first | refine blk_drewN ?_ _ | refine blk_drew ?_ | refine blk_alloc ?_ _)); exact BK207.out) hb); have n2_ := Aside0.mk (below_step (by repeat (first | (with_reducible first | exact HB.out | apply below_alloc | apply pw_below_drewN | apply below_drew1 | refine below_set ?_ GE207.out) | exact HB.out)) hb); clear BK207; clear HB; have HO214 := n0_; have BK207 := n1_; have HB := n2_; clear n0_ n1_ n2_; (try clear hb); (try clear hb2); (try clear hk); (try clear hi); (try clear ho0); obtain ⟨Ao20, co20, eo20⟩ := Kd.R_slice HO214.out; subst eo20) | (go_at_call 47; (with_reducible refine (gramaryeref10_row.calls k1 _ _ l1 false _ _ t212 t215 _ ?side1 ?side2 ?side3 ?side4 A17.out).mono ?_); (case side1 => repeat (first | exact (Kd.C_below HR1.out HB.out) | (with_reducible refine Kd.C_alloc ?_ _) | (with_reducible refine Kd.C_drewN ?_ _) | (with_reducible refine Kd.C_drew ?_))); (case side2 => exact HC1.out); (case side3 => repeat (first | exact (Kd.R_reads' HO214.out).2.2 | (with_reducible refine Kd.C_alloc ?_ _) | (with_reducible refine Kd.C_drewN ?_ _) | (with_reducible refine Kd.C_drew ?_))); (case side4 => exact (Kd.R_reads' HO214.out).2.1); rintro e w' ⟨rfl, ⟨nd, rfl⟩⟩; (try first | exact ⟨rfl, _, World.drewN_drewN _ _ _⟩ | exact ⟨rfl, _, Eq.trans (World.drewN_drewN _ _ _) (congrArg (World.drewN _) (Nat.add_assoc _ _ _))⟩)))
          repeat (go_quiet (first | (go_at_call 21; (with_reducible refine (gramaryeref10_Nothing.calls k1 a0_0 a0_1 _ _ l0_2 _ _ l0_3 t212 _ ?side1 ?side2 ?side3 ?side4 A16.out).mono ?_); (case side1 => repeat (first | exact (Kd.C_below HR0_2.out HB.out) | (with_reducible refine Kd.C_alloc ?_ _) | (with_reducible refine Kd.C_drewN ?_ _) | (with_reducible refine Kd.C_drew ?_))); (case side2 => exact HC0_2.out); (case side3 => repeat (first | exact (Kd.C_below HR0_3.out HB.out) | (with_reducible refine Kd.C_alloc ?_ _) | (with_reducible refine Kd.C_drewN ?_ _) | (with_reducible refine Kd.C_drew ?_))); (case side4 => exact HC0_3.out); rintro e w19 ⟨v213, rfl, ho0, hb⟩; have n0_ := Aside0.mk (Kd.R_lower ho0 (below_size (by repeat (first | (with_reducible first | exact HB.out | apply below_alloc | apply pw_below_drewN | apply below_drew1 | refine below_set ?_ GE207.out) | exact HB.out)))); have n1_ := Aside0.mk (blk_below (g := gb207) (o := .cells #[.int .i64 a0_0, .int .i64 a0_1, .slice A0_2 l0_2.length c0_2, .slice A0_3 l0_3.length c0_3] 25 (0, 0)) (by (with_reducible repeat (first | refine blk_drewN ?_ _ | refine blk_drew ?_ | refine blk_alloc ?_ _)); exact BK207.out) hb); have n2_ := Aside0.mk (below_step (by repeat (first | (with_reducible first | exact HB.out | apply below_alloc | apply pw_below_drewN | apply below_drew1 | refine below_set ?_ GE207.out) | exact HB.out)) hb); clear BK207; clear HB; have HO214 := n0_; have BK207 := n1_; have HB := n2_; clear n0_ n1_ n2_; (try clear hb); (try clear hb2); (try clear hk); (try clear hi); (try clear ho0); obtain ⟨Ao20, co20, eo20⟩ := Kd.R_slice HO214.out; subst eo20) | (go_at_call 47; (with_reducible refine (gramaryeref10_row.calls k1 _ _ l1 false _ _ t212 t215 _ ?side1 ?side2 ?side3 ?side4 A17.out).mono ?_); (case side1 => repeat (first | exact (Kd.C_below HR1.out HB.out) | (with_reducible refine Kd.C_alloc ?_ _) | (with_reducible refine Kd.C_drewN ?_ _) | (with_reducible refine Kd.C_drew ?_))); (case side2 => exact HC1.out); (case side3 => repeat (first | exact (Kd.R_reads' HO214.out).2.2 | (with_reducible refine Kd.C_alloc ?_ _) | (with_reducible refine Kd.C_drewN ?_ _) | (with_reducible refine Kd.C_drew ?_))); (case side4 => exact (Kd.R_reads' HO214.out).2.1); rintro e w' ⟨rfl, ⟨nd, rfl⟩⟩; (try first | exact ⟨rfl, _, World.drewN_drewN _ _ _⟩ | exact ⟨rfl, _, Eq.trans (World.drewN_drewN _ _ _) (congrArg (World.drewN _) (Nat.add_assoc _ _ _))⟩))); try go_wp2_with (first | (go_at_call 21; (with_reducible refine (gramaryeref10_Nothing.calls k1 a0_0 a0_1 _ _ l0_2 _ _ l0_3 t212 _ ?side1 ?side2 ?side3 ?side4 A16.out).mono ?_); (case side1 => repeat (first | exact (Kd.C_below HR0_2.out HB.out) | (with_reducible refine Kd.C_alloc ?_ _) | (with_reducible refine Kd.C_drewN ?_ _) | (with_reducible refine Kd.C_drew ?_))); (case side2 => exact HC0_2.out); (case side3 => repeat (first | exact (Kd.C_below HR0_3.out HB.out) | (with_reducible refine Kd.C_alloc ?_ _) | (with_reducible refine Kd.C_drewN ?_ _) | (with_reducible refine Kd.C_drew ?_))); (case side4 => exact HC0_3.out); rintro e w19 ⟨v213, rfl, ho0, hb⟩; have n0_ := Aside0.mk (Kd.R_lower ho0 (below_size (by repeat (first | (with_reducible first | exact HB.out | apply below_alloc | apply pw_below_drewN | apply below_drew1 | refine below_set ?_ GE207.out) | exact HB.out)))); have n1_ := Aside0.mk (blk_below (g := gb207) (o := .cells #[.int .i64 a0_0, .int .i64 a0_1, .slice A0_2 l0_2.length c0_2, .slice A0_3 l0_3.length c0_3] 25 (0, 0)) (by (with_reducible repeat (first | refine blk_drewN ?_ _ | refine blk_drew ?_ | refine blk_alloc ?_ _)); exact BK207.out) hb); have n2_ := Aside0.mk (below_step (by repeat (first | (with_reducible first | exact HB.out | apply below_alloc | apply pw_below_drewN | apply below_drew1 | refine below_set ?_ GE207.out) | exact HB.out)) hb); clear BK207; clear HB; have HO214 := n0_; have BK207 := n1_; have HB := n2_; clear n0_ n1_ n2_; (try clear hb); (try clear hb2); (try clear hk); (try clear hi); (try clear ho0); obtain ⟨Ao20, co20, eo20⟩ := Kd.R_slice HO214.out; subst eo20) | (go_at_call 47; (with_reducible refine (gramaryeref10_row.calls k1 _ _ l1 false _ _ t212 t215 _ ?side1 ?side2 ?side3 ?side4 A17.out).mono ?_); (case side1 => repeat (first | exact (Kd.C_below HR1.out HB.out) | (with_reducible refine Kd.C_alloc ?_ _) | (with_reducible refine Kd.C_drewN ?_ _) | (with_reducible refine Kd.C_drew ?_))); (case side2 => exact HC1.out); (case side3 => repeat (first | exact (Kd.R_reads' HO214.out).2.2 | (with_reducible refine Kd.C_alloc ?_ _) | (with_reducible refine Kd.C_drewN ?_ _) | (with_reducible refine Kd.C_drew ?_))); (case side4 => exact (Kd.R_reads' HO214.out).2.1); rintro e w' ⟨rfl, ⟨nd, rfl⟩⟩; (try first | exact ⟨rfl, _, World.drewN_drewN _ _ _⟩ | exact ⟨rfl, _, Eq.trans (World.drewN_drewN _ _ _) (congrArg (World.drewN _) (Nat.add_assoc _ _ _))⟩))))
          go_ret
          exact ⟨by first | rfl | (simp [errW_none, errW_some] <;> rfl) | (simp [*, errW_none, errW_some] <;> rfl), by repeat (first | (with_reducible first | exact HB.out | apply below_alloc | apply pw_below_drewN | apply below_drew1 | refine below_set ?_ GE207.out) | exact HB.out)⟩
  · rw [if_neg c4] at H
    have c4b0 : (t208 == 0) = false := beq_eq_false_iff_ne.mpr c4
    have c4b1 : (t208 != 0) = true := bne_iff_ne.mpr c4
    obtain rfl := Option.some.inj H
    go_enter Try.func19, Try.ntmps19
    go_wp2_with (first | ((with_reducible refine gate_dst (N := 2) rfl ?_); (try (refine gate_guard (by rfl) ?_; dsimp only)); refine box_event ?hg (N := 2) ?hd (cs := #[.int .i64 a0_0, .int .i64 a0_1, .slice A0_2 l0_2.length c0_2, .slice A0_3 l0_3.length c0_3]) (t := 25) ?hr ?_; (case hd => rfl); (case hg => rfl); (case hr => first | (go_simp; done) | (go_simp; rfl)); intro gb207 hg w21 hbox hb; have n0_ := Aside0.mk (below_step (by repeat (first | (with_reducible first | exact HB.out | apply below_alloc | apply pw_below_drewN | apply below_drew1) | exact HB.out)) hb); have n1_ := Aside0.mk (hbox); have n2_ := Aside0.mk ((by rw [hg]; exact (below_size (by repeat (first | (with_reducible first | exact HB.out | apply below_alloc | apply pw_below_drewN | apply below_drew1) | exact HB.out))) : w.heap.size ≤ gb207)); have n3_ := Aside0.mk ((by rw [hg]; exact (below_size (by repeat (first | (with_reducible first | exact HB.out | apply below_alloc | apply pw_below_drewN | apply below_drew1) | exact HB.out))) : w.heap.size ≤ gb207)); clear HB; have HB := n0_; have BK207 := n1_; have GW207 := n2_; have GE207 := n3_; clear n0_ n1_ n2_ n3_; clear hb hbox hg; have hcz22_0 : w21.cell? ⟨gb207, 0, none⟩ = some (.int .i64 a0_0) := (blk_cell BK207.out 0).trans rfl; have hcz22_1 : w21.cell? ⟨gb207, 1, none⟩ = some (.int .i64 a0_1) := (blk_cell BK207.out 1).trans rfl; have hcz22_2 : w21.cell? ⟨gb207, 2, none⟩ = some (.slice A0_2 l0_2.length c0_2) := (blk_cell BK207.out 2).trans rfl; have hcz22_3 : w21.cell? ⟨gb207, 3, none⟩ = some (.slice A0_3 l0_3.length c0_3) := (blk_cell BK207.out 3).trans rfl; have hfz22_0 := blk_frozen BK207.out 0; have hfz22_1 := blk_frozen BK207.out 1; have hfz22_2 := blk_frozen BK207.out 2; have hfz22_3 := blk_frozen BK207.out 3) | (go_at_call 12; (with_reducible refine (gramaryeref09_May.calls k a0_0 a0_1 _ _ l0_2 _ _ l0_3 t208 _ ?side1 ?side2 ?side3 ?side4 A3.out).mono ?_); (case side1 => repeat (first | exact (Kd.C_below HR0_2.out HB.out) | (with_reducible refine Kd.C_alloc ?_ _) | (with_reducible refine Kd.C_drewN ?_ _) | (with_reducible refine Kd.C_drew ?_))); (case side2 => exact HC0_2.out); (case side3 => repeat (first | exact (Kd.C_below HR0_3.out HB.out) | (with_reducible refine Kd.C_alloc ?_ _) | (with_reducible refine Kd.C_drewN ?_ _) | (with_reducible refine Kd.C_drew ?_))); (case side4 => exact HC0_3.out); rintro e w23 ⟨rfl, hb⟩; have n0_ := Aside0.mk (blk_below (g := gb207) (o := .cells #[.int .i64 a0_0, .int .i64 a0_1, .slice A0_2 l0_2.length c0_2, .slice A0_3 l0_3.length c0_3] 25 (0, 0)) (by (with_reducible repeat (first | refine blk_drewN ?_ _ | refine blk_drew ?_ | refine blk_alloc ?_ _)); exact BK207.out) hb); have n1_ := Aside0.mk (below_step (by repeat (first | (with_reducible first | exact HB.out | apply below_alloc | apply pw_below_drewN | apply below_drew1 | refine below_set ?_ GE207.out) | exact HB.out)) hb); clear BK207; clear HB; have BK207 := n0_; have HB := n1_; clear n0_ n1_; (try clear hb); (try clear hb2); (try clear hk); (try clear hi)))
    repeat (go_quiet (first | ((with_reducible refine gate_dst (N := 2) rfl ?_); (try (refine gate_guard (by rfl) ?_; dsimp only)); refine box_event ?hg (N := 2) ?hd (cs := #[.int .i64 a0_0, .int .i64 a0_1, .slice A0_2 l0_2.length c0_2, .slice A0_3 l0_3.length c0_3]) (t := 25) ?hr ?_; (case hd => rfl); (case hg => rfl); (case hr => first | (go_simp; done) | (go_simp; rfl)); intro gb207 hg w21 hbox hb; have n0_ := Aside0.mk (below_step (by repeat (first | (with_reducible first | exact HB.out | apply below_alloc | apply pw_below_drewN | apply below_drew1) | exact HB.out)) hb); have n1_ := Aside0.mk (hbox); have n2_ := Aside0.mk ((by rw [hg]; exact (below_size (by repeat (first | (with_reducible first | exact HB.out | apply below_alloc | apply pw_below_drewN | apply below_drew1) | exact HB.out))) : w.heap.size ≤ gb207)); have n3_ := Aside0.mk ((by rw [hg]; exact (below_size (by repeat (first | (with_reducible first | exact HB.out | apply below_alloc | apply pw_below_drewN | apply below_drew1) | exact HB.out))) : w.heap.size ≤ gb207)); clear HB; have HB := n0_; have BK207 := n1_; have GW207 := n2_; have GE207 := n3_; clear n0_ n1_ n2_ n3_; clear hb hbox hg; have hcz22_0 : w21.cell? ⟨gb207, 0, none⟩ = some (.int .i64 a0_0) := (blk_cell BK207.out 0).trans rfl; have hcz22_1 : w21.cell? ⟨gb207, 1, none⟩ = some (.int .i64 a0_1) := (blk_cell BK207.out 1).trans rfl; have hcz22_2 : w21.cell? ⟨gb207, 2, none⟩ = some (.slice A0_2 l0_2.length c0_2) := (blk_cell BK207.out 2).trans rfl; have hcz22_3 : w21.cell? ⟨gb207, 3, none⟩ = some (.slice A0_3 l0_3.length c0_3) := (blk_cell BK207.out 3).trans rfl; have hfz22_0 := blk_frozen BK207.out 0; have hfz22_1 := blk_frozen BK207.out 1; have hfz22_2 := blk_frozen BK207.out 2; have hfz22_3 := blk_frozen BK207.out 3) | (go_at_call 12; (with_reducible refine (gramaryeref09_May.calls k a0_0 a0_1 _ _ l0_2 _ _ l0_3 t208 _ ?side1 ?side2 ?side3 ?side4 A3.out).mono ?_); (case side1 => repeat (first | exact (Kd.C_below HR0_2.out HB.out) | (with_reducible refine Kd.C_alloc ?_ _) | (with_reducible refine Kd.C_drewN ?_ _) | (with_reducible refine Kd.C_drew ?_))); (case side2 => exact HC0_2.out); (case side3 => repeat (first | exact (Kd.C_below HR0_3.out HB.out) | (with_reducible refine Kd.C_alloc ?_ _) | (with_reducible refine Kd.C_drewN ?_ _) | (with_reducible refine Kd.C_drew ?_))); (case side4 => exact HC0_3.out); rintro e w23 ⟨rfl, hb⟩; have n0_ := Aside0.mk (blk_below (g := gb207) (o := .cells #[.int .i64 a0_0, .int .i64 a0_1, .slice A0_2 l0_2.length c0_2, .slice A0_3 l0_3.length c0_3] 25 (0, 0)) (by (with_reducible repeat (first | refine blk_drewN ?_ _ | refine blk_drew ?_ | refine blk_alloc ?_ _)); exact BK207.out) hb); have n1_ := Aside0.mk (below_step (by repeat (first | (with_reducible first | exact HB.out | apply below_alloc | apply pw_below_drewN | apply below_drew1 | refine below_set ?_ GE207.out) | exact HB.out)) hb); clear BK207; clear HB; have BK207 := n0_; have HB := n1_; clear n0_ n1_; (try clear hb); (try clear hb2); (try clear hk); (try clear hi))); try go_wp2_with (first | ((with_reducible refine gate_dst (N := 2) rfl ?_); (try (refine gate_guard (by rfl) ?_; dsimp only)); refine box_event ?hg (N := 2) ?hd (cs := #[.int .i64 a0_0, .int .i64 a0_1, .slice A0_2 l0_2.length c0_2, .slice A0_3 l0_3.length c0_3]) (t := 25) ?hr ?_; (case hd => rfl); (case hg => rfl); (case hr => first | (go_simp; done) | (go_simp; rfl)); intro gb207 hg w21 hbox hb; have n0_ := Aside0.mk (below_step (by repeat (first | (with_reducible first | exact HB.out | apply below_alloc | apply pw_below_drewN | apply below_drew1) | exact HB.out)) hb); have n1_ := Aside0.mk (hbox); have n2_ := Aside0.mk ((by rw [hg]; exact (below_size (by repeat (first | (with_reducible first | exact HB.out | apply below_alloc | apply pw_below_drewN | apply below_drew1) | exact HB.out))) : w.heap.size ≤ gb207)); have n3_ := Aside0.mk ((by rw [hg]; exact (below_size (by repeat (first | (with_reducible first | exact HB.out | apply below_alloc | apply pw_below_drewN | apply below_drew1) | exact HB.out))) : w.heap.size ≤ gb207)); clear HB; have HB := n0_; have BK207 := n1_; have GW207 := n2_; have GE207 := n3_; clear n0_ n1_ n2_ n3_; clear hb hbox hg; have hcz22_0 : w21.cell? ⟨gb207, 0, none⟩ = some (.int .i64 a0_0) := (blk_cell BK207.out 0).trans rfl; have hcz22_1 : w21.cell? ⟨gb207, 1, none⟩ = some (.int .i64 a0_1) := (blk_cell BK207.out 1).trans rfl; have hcz22_2 : w21.cell? ⟨gb207, 2, none⟩ = some (.slice A0_2 l0_2.length c0_2) := (blk_cell BK207.out 2).trans rfl; have hcz22_3 : w21.cell? ⟨gb207, 3, none⟩ = some (.slice A0_3 l0_3.length c0_3) := (blk_cell BK207.out 3).trans rfl; have hfz22_0 := blk_frozen BK207.out 0; have hfz22_1 := blk_frozen BK207.out 1; have hfz22_2 := blk_frozen BK207.out 2; have hfz22_3 := blk_frozen BK207.out 3) | (go_at_call 12; (with_reducible refine (gramaryeref09_May.calls k a0_0 a0_1 _ _ l0_2 _ _ l0_3 t208 _ ?side1 ?side2 ?side3 ?side4 A3.out).mono ?_); (case side1 => repeat (first | exact (Kd.C_below HR0_2.out HB.out) | (with_reducible refine Kd.C_alloc ?_ _) | (with_reducible refine Kd.C_drewN ?_ _) | (with_reducible refine Kd.C_drew ?_))); (case side2 => exact HC0_2.out); (case side3 => repeat (first | exact (Kd.C_below HR0_3.out HB.out) | (with_reducible refine Kd.C_alloc ?_ _) | (with_reducible refine Kd.C_drewN ?_ _) | (with_reducible refine Kd.C_drew ?_))); (case side4 => exact HC0_3.out); rintro e w23 ⟨rfl, hb⟩; have n0_ := Aside0.mk (blk_below (g := gb207) (o := .cells #[.int .i64 a0_0, .int .i64 a0_1, .slice A0_2 l0_2.length c0_2, .slice A0_3 l0_3.length c0_3] 25 (0, 0)) (by (with_reducible repeat (first | refine blk_drewN ?_ _ | refine blk_drew ?_ | refine blk_alloc ?_ _)); exact BK207.out) hb); have n1_ := Aside0.mk (below_step (by repeat (first | (with_reducible first | exact HB.out | apply below_alloc | apply pw_below_drewN | apply below_drew1 | refine below_set ?_ GE207.out) | exact HB.out)) hb); clear BK207; clear HB; have BK207 := n0_; have HB := n1_; clear n0_ n1_; (try clear hb); (try clear hb2); (try clear hk); (try clear hi))))
    go_ret
    exact ⟨by first | rfl | (simp [errW_none, errW_some] <;> rfl) | (simp [*, errW_none, errW_some] <;> rfl), by repeat (first | (with_reducible first | exact HB.out | apply below_alloc | apply pw_below_drewN | apply below_drew1 | refine below_set ?_ GE207.out) | exact HB.out)⟩

/-! ### gramaryelaw10_same: function 20 -/
def gramaryelaw10_same.l0 : Nat → List Bool → List Bool → Int → Option (Bool)
  | 0, _, _, _ => none
  | k + 1, x0, x1, x5 => if x5 < (x0.length : Int) then (if 0 ≤ x5 then (if x5 < (x1.length : Int) then (if ((rdOf false x0 x5) != (rdOf false x1 x5)) = true then (some false) else (gramaryelaw10_same.l0 k x0 x1 (wrap64 (x5 + 1)))) else (none)) else (none)) else (some true)
def gramaryelaw10_same.f (k : Nat) (l0 : List Bool) (l1 : List Bool) : Option (Bool) := if (l0.length : Int) = (l1.length : Int) then (gramaryelaw10_same.l0 k l0 l1 0) else (some false)
theorem gramaryelaw10_same.mono_l : ∀ k, (∀ y0 y1 y2, LeO (gramaryelaw10_same.l0 k y0 y1 y2) (gramaryelaw10_same.l0 (k + 1) y0 y1 y2))
  | 0 => fun _ _ _ r h => by simp [gramaryelaw10_same.l0] at h
  | k + 1 => by
    have ih0 := gramaryelaw10_same.mono_l k
    · intro y0 y1 y2
      unfold gramaryelaw10_same.l0
      repeat' first
      | (with_reducible exact ih0 _ _ _)
      | (with_reducible exact LeO.refl _)
      | (with_reducible exact LeO.none _)
      | (with_reducible refine LeO.ite ?_ ?_)
      | (with_reducible refine LeO.bind ?_ (fun _ => ?_))
      | exact ih0 _ _ _
      | exact LeO.none _
      | refine LeO.ite ?_ ?_
      | refine LeO.bind ?_ (fun _ => ?_)
theorem gramaryelaw10_same.mono : ∀ a0 a1 k, LeO (gramaryelaw10_same.f k a0 a1) (gramaryelaw10_same.f (k + 1) a0 a1) := by
  intro a0 a1 k
  have ih0 := gramaryelaw10_same.mono_l k
  unfold gramaryelaw10_same.f
  repeat' first
      | (with_reducible exact ih0 _ _ _)
      | (with_reducible exact LeO.refl _)
      | (with_reducible exact LeO.none _)
      | (with_reducible refine LeO.ite ?_ ?_)
      | (with_reducible refine LeO.bind ?_ (fun _ => ?_))
      | exact ih0 _ _ _
      | exact LeO.none _
      | refine LeO.ite ?_ ?_
      | refine LeO.bind ?_ (fun _ => ?_)
set_option maxHeartbeats 8000000 in
set_option maxRecDepth 100000 in
theorem gramaryelaw10_same.calls (k : Nat) (A0 : Option Addr) (c0 : Nat) (l0 : List Bool) (A1 : Option Addr) (c1 : Nat) (l1 : List Bool) (r : Bool) (w : World) (hr0 : Kd.C Kd.bool w A0 l0.length l0) (hc0 : l0.length ≤ c0) (hr1 : Kd.C Kd.bool w A1 l1.length l1) (hc1 : l1.length ≤ c1) (h : gramaryelaw10_same.f k l0 l1 = some r) :
    Calls Try.prog 20 #[.slice A0 l0.length c0, .slice A1 l1.length c1] w fun e w' => e = .returned (.bool r) ∧ Drawn0 w w' := by
  have HR0 := Aside0.mk hr0
  have HC0 := Aside0.mk hc0
  clear hr0 hc0
  have HR1 := Aside0.mk hr1
  have HC1 := Aside0.mk hc1
  clear hr1 hc1
  have H : (if (l0.length : Int) = (l1.length : Int) then (gramaryelaw10_same.l0 k l0 l1 0) else (some false)) = some r := h
  clear h
  by_cases c3 : (l0.length : Int) = (l1.length : Int)
  · rw [if_pos c3] at H
    have c3b0 : ((l0.length : Int) == (l1.length : Int)) = true := beq_iff_eq.mpr c3
    have c3b1 : ((l0.length : Int) != (l1.length : Int)) = false := bne_eq_false_iff_eq.mpr c3
    have c3b2 : (l0.length == l1.length) = true := by first | simpa using c3 | (simp at c3 ⊢; omega)
    clear c3
    have H' := Aside0.mk H
    clear H
    go_enter Try.func20, Try.ntmps20
    go_wp2
    repeat (go_quiet (fail); try go_wp2)
    (try (with_reducible (show Code.wp _ _ _ (Act.put _ _ _) _); go_simp))
    go_loopg [5] k (fun kq v5 w' => ∃ (x5_1 : Int), v5 = .int .i64 x5_1 ∧ Aside0 (gramaryelaw10_same.l0 kq l0 l1 x5_1 = some r) ∧ Aside0 (kq ≤ k) ∧ Drawn0 w w')
    case atStart => exact ⟨(0), (by first | rfl | (simp; done) | (simp [*]; done)), H', ⟨Nat.le_refl _⟩, by repeat (first | exact Drawn0.refl _ | apply Drawn0.step)⟩
    case round =>
      clear H'
      try clear c1
      try clear c2
      try clear p2
      try clear c3
      try clear c3b0
      try clear c3b1
      try clear c3b2
      obtain ⟨x5_1, rfl, HA, HK1, ⟨m1, rfl⟩⟩ := hrel
      cases gk with
      | zero => exact absurd HA.out (by simp [gramaryelaw10_same.l0])
      | succ k1 =>
        have H := HA.out
        clear HA
        simp only [gramaryelaw10_same.l0] at H
        by_cases c4 : x5_1 < (l0.length : Int)
        · rw [if_pos c4] at H
          have c4b0 : decide (x5_1 < (l0.length : Int)) = true := decide_eq_true c4
          clear c4
          by_cases c5 : 0 ≤ x5_1
          · rw [if_pos c5] at H
            have c5b0 : decide (0 ≤ x5_1) = true := decide_eq_true c5
            clear c5
            by_cases c6 : x5_1 < (l1.length : Int)
            · rw [if_pos c6] at H
              have c6b0 : decide (x5_1 < (l1.length : Int)) = true := decide_eq_true c6
              clear c6
              by_cases c7 : ((rdOf false l0 x5_1) != (rdOf false l1 x5_1)) = true
              · rw [if_pos c7] at H
                have c7b0 : ((rdOf false l0 x5_1) != (rdOf false l1 x5_1)) = true := c7
                (try (have c7b1 : decide ((rdOf false l0 x5_1) = (rdOf false l1 x5_1)) = false := by simpa using c7))
                (try (have c7b2 : ((rdOf false l0 x5_1) == (rdOf false l1 x5_1)) = false := by simpa using c7))
                (try (have c7b3 : ¬ ((rdOf false l0 x5_1) = (rdOf false l1 x5_1)) := by simpa using c7))
                clear c7
                obtain rfl := Option.some.inj H
                have p216 : 0 ≤ (x5_1 : Int) := of_decide_eq_true (by first | (with_reducible assumption) | assumption)
                have q216 : x5_1 < (l0.length : Int) := of_decide_eq_true (by first | (with_reducible assumption) | assumption)
                obtain ⟨ad216, e216, hx216_0⟩ := Kd.at_bool HR0.out x5_1 p216 q216
                cases e216
                replace p216 := eq_true p216
                replace q216 := eq_true q216
                have p217 : 0 ≤ (x5_1 : Int) := of_decide_eq_true (by first | (with_reducible assumption) | assumption)
                have q217 : x5_1 < (l1.length : Int) := of_decide_eq_true (by first | (with_reducible assumption) | assumption)
                obtain ⟨ad217, e217, hx217_0⟩ := Kd.at_bool HR1.out x5_1 p217 q217
                cases e217
                replace p217 := eq_true p217
                replace q217 := eq_true q217
                go_wp2
                repeat (go_quiet (fail); try go_wp2)
                go_ret
                exact ⟨by first | rfl | (simp; done) | (simp [*]; done), by repeat (first | exact Drawn0.refl _ | apply Drawn0.step)⟩
              · rw [if_neg c7] at H
                have c7b0 : ((rdOf false l0 x5_1) != (rdOf false l1 x5_1)) = false := by simpa using c7
                (try (have c7b1 : decide ((rdOf false l0 x5_1) = (rdOf false l1 x5_1)) = true := by simpa using c7))
                (try (have c7b2 : ((rdOf false l0 x5_1) == (rdOf false l1 x5_1)) = true := by simpa using c7))
                clear c7
                have H' := Aside0.mk H
                clear H
                have p216 : 0 ≤ (x5_1 : Int) := of_decide_eq_true (by first | (with_reducible assumption) | assumption)
                have q216 : x5_1 < (l0.length : Int) := of_decide_eq_true (by first | (with_reducible assumption) | assumption)
                obtain ⟨ad216, e216, hx216_0⟩ := Kd.at_bool HR0.out x5_1 p216 q216
                cases e216
                replace p216 := eq_true p216
                replace q216 := eq_true q216
                have p217 : 0 ≤ (x5_1 : Int) := of_decide_eq_true (by first | (with_reducible assumption) | assumption)
                have q217 : x5_1 < (l1.length : Int) := of_decide_eq_true (by first | (with_reducible assumption) | assumption)
                obtain ⟨ad217, e217, hx217_0⟩ := Kd.at_bool HR1.out x5_1 p217 q217
                cases e217
                replace p217 := eq_true p217
                replace q217 := eq_true q217
                go_wp2
                repeat (go_quiet (fail); try go_wp2)
                go_roundg k1
                case measure => have := HK1.out; omega
                case rel => exact ⟨(wrap64 (x5_1 + 1)), (by first | rfl | (simp; done) | (simp [*]; done)), H', ⟨by have := HK1.out; omega⟩, by repeat (first | exact Drawn0.refl _ | apply Drawn0.step)⟩
            · rw [if_neg c6] at H
              exact absurd H (by simp)
          · rw [if_neg c5] at H
            exact absurd H (by simp)
        · rw [if_neg c4] at H
          have c4b0 : decide (x5_1 < (l0.length : Int)) = false := decide_eq_false c4
          clear c4
          obtain rfl := Option.some.inj H
          go_wp2
          repeat (go_quiet (fail); try go_wp2)
          go_ret
          exact ⟨by first | rfl | (simp; done) | (simp [*]; done), by repeat (first | exact Drawn0.refl _ | apply Drawn0.step)⟩
  · rw [if_neg c3] at H
    have c3b0 : ((l0.length : Int) == (l1.length : Int)) = false := beq_eq_false_iff_ne.mpr c3
    have c3b1 : ((l0.length : Int) != (l1.length : Int)) = true := bne_iff_ne.mpr c3
    have c3b2 : (l0.length == l1.length) = false := by first | simpa using c3 | (simp at c3 ⊢; omega)
    obtain rfl := Option.some.inj H
    go_enter Try.func20, Try.ntmps20
    go_wp2
    repeat (go_quiet (fail); try go_wp2)
    go_ret
    exact ⟨by first | rfl | (simp; done) | (simp [*]; done), by repeat (first | exact Drawn0.refl _ | apply Drawn0.step)⟩

/-! ### gramaryeref10_Ends: function 22 -/
def gramaryeref10_Ends.f (k : Nat) (a0_0 : Int) (a0_1 : Int) (l0_2 : List Int) (l0_3 : List (S51)) : Option (List Bool) := (gramaryeref10_mark.f k a0_0 a0_1 l0_2 l0_3 true).bind fun t219 => (some t219)
theorem gramaryeref10_Ends.mono : ∀ a0 a1 a2 a3 k, LeO (gramaryeref10_Ends.f k a0 a1 a2 a3) (gramaryeref10_Ends.f (k + 1) a0 a1 a2 a3) := by
  intro a0 a1 a2 a3 k
  unfold gramaryeref10_Ends.f
  repeat' first
      | (with_reducible exact gramaryeref10_mark.mono _ _ _ _ _ _)
      | (with_reducible exact LeO.refl _)
      | (with_reducible exact LeO.none _)
      | (with_reducible refine LeO.ite ?_ ?_)
      | (with_reducible refine LeO.bind ?_ (fun _ => ?_))
      | exact gramaryeref10_mark.mono _ _ _ _ _ _
      | exact LeO.none _
      | refine LeO.ite ?_ ?_
      | refine LeO.bind ?_ (fun _ => ?_)
set_option maxHeartbeats 8000000 in
set_option maxRecDepth 100000 in
theorem gramaryeref10_Ends.calls (k : Nat) (a0_0 : Int) (a0_1 : Int) (A0_2 : Option Addr) (c0_2 : Nat) (l0_2 : List Int) (A0_3 : Option Addr) (c0_3 : Nat) (l0_3 : List (S51)) (r : List Bool) (w : World) (hr0_2 : Kd.C (Kd.int .i64) w A0_2 l0_2.length l0_2) (hc0_2 : l0_2.length ≤ c0_2) (hr0_3 : Kd.C k51 w A0_3 l0_3.length l0_3) (hc0_3 : l0_3.length ≤ c0_3) (h : gramaryeref10_Ends.f k a0_0 a0_1 l0_2 l0_3 = some r) :
    Calls Try.prog 22 #[.agg #[.int .i64 a0_0, .int .i64 a0_1, .slice A0_2 l0_2.length c0_2, .slice A0_3 l0_3.length c0_3]] w fun e w' => ∃ v0_ : Value, e = .returned (v0_) ∧ Kd.R Kd.bool 4 w' w.heap.size (fun _ => True) v0_ r ∧ Below w.heap.size w w' := by
  have hu25 := Try.underlying25
  have HR0_2 := Aside0.mk hr0_2
  have HC0_2 := Aside0.mk hc0_2
  clear hr0_2 hc0_2
  have HR0_3 := Aside0.mk hr0_3
  have HC0_3 := Aside0.mk hc0_3
  clear hr0_3 hc0_3
  have HB := Aside0.mk (Below.refl w.heap.size w)
  have H : ((gramaryeref10_mark.f k a0_0 a0_1 l0_2 l0_3 true).bind fun t219 => (some t219)) = some r := h
  clear h
  replace H := Option.bind_eq_some_iff.mp H
  obtain ⟨t219, A20, H⟩ := H
  replace H : (some t219) = some r := H
  have A2 := Aside0.mk A20
  clear A20
  obtain rfl := Option.some.inj H
  go_enter Try.func22, Try.ntmps22
  go_wp2_with (first | ((with_reducible refine gate_dst (N := 1) rfl ?_); refine box_event ?hg (N := 1) ?hd (cs := #[.int .i64 a0_0, .int .i64 a0_1, .slice A0_2 l0_2.length c0_2, .slice A0_3 l0_3.length c0_3]) (t := 25) ?hr ?_; (case hd => rfl); (case hg => rfl); (case hr => first | (go_simp; done) | (go_simp; rfl)); intro gb218 hg w3 hbox hb; have n0_ := Aside0.mk (below_step (by repeat (first | (with_reducible first | exact HB.out | apply below_alloc | apply pw_below_drewN | apply below_drew1) | exact HB.out)) hb); have n1_ := Aside0.mk (hbox); have n2_ := Aside0.mk ((by rw [hg]; exact (below_size (by repeat (first | (with_reducible first | exact HB.out | apply below_alloc | apply pw_below_drewN | apply below_drew1) | exact HB.out))) : w.heap.size ≤ gb218)); have n3_ := Aside0.mk ((by rw [hg]; exact (below_size (by repeat (first | (with_reducible first | exact HB.out | apply below_alloc | apply pw_below_drewN | apply below_drew1) | exact HB.out))) : w.heap.size ≤ gb218)); clear HB; have HB := n0_; have BK218 := n1_; have GW218 := n2_; have GE218 := n3_; clear n0_ n1_ n2_ n3_; clear hb hbox hg; have hcz4_0 : w3.cell? ⟨gb218, 0, none⟩ = some (.int .i64 a0_0) := (blk_cell BK218.out 0).trans rfl; have hcz4_1 : w3.cell? ⟨gb218, 1, none⟩ = some (.int .i64 a0_1) := (blk_cell BK218.out 1).trans rfl; have hcz4_2 : w3.cell? ⟨gb218, 2, none⟩ = some (.slice A0_2 l0_2.length c0_2) := (blk_cell BK218.out 2).trans rfl; have hcz4_3 : w3.cell? ⟨gb218, 3, none⟩ = some (.slice A0_3 l0_3.length c0_3) := (blk_cell BK218.out 3).trans rfl; have hfz4_0 := blk_frozen BK218.out 0; have hfz4_1 := blk_frozen BK218.out 1; have hfz4_2 := blk_frozen BK218.out 2; have hfz4_3 := blk_frozen BK218.out 3) | ((with_reducible refine gate_callee (f := 48) rfl ?_); refine goesL_ (some 4) rfl rfl Try.func48 (by kernel_rfl) rfl #[.agg #[.int .i64 a0_0, .int .i64 a0_1, .slice A0_2 l0_2.length c0_2, .slice A0_3 l0_3.length c0_3], .bool true] rfl (by (try simp only [List.map_toArray, List.map_cons, List.map_nil]); first | done | rfl | (simp only [List.length_drop, List.length_take]; rfl)) ?_; (with_reducible refine (gramaryeref10_mark.calls k a0_0 a0_1 _ _ l0_2 _ _ l0_3 true t219 _ ?side1 ?side2 ?side3 ?side4 A2.out).mono ?_); (case side1 => repeat (first | exact (Kd.C_below HR0_2.out HB.out) | (with_reducible refine Kd.C_alloc ?_ _) | (with_reducible refine Kd.C_drewN ?_ _) | (with_reducible refine Kd.C_drew ?_))); (case side2 => exact HC0_2.out); (case side3 => repeat (first | exact (Kd.C_below HR0_3.out HB.out) | (with_reducible refine Kd.C_alloc ?_ _) | (with_reducible refine Kd.C_drewN ?_ _) | (with_reducible refine Kd.C_drew ?_))); (case side4 => exact HC0_3.out); rintro e w5 ⟨v220, rfl, ho0, hb⟩; refine ⟨_, rfl, ?_⟩; have n0_ := Aside0.mk (Kd.R_lower ho0 (below_size (by repeat (first | (with_reducible first | exact HB.out | apply below_alloc | apply pw_below_drewN | apply below_drew1 | refine below_set ?_ GE218.out) | exact HB.out)))); have n1_ := Aside0.mk (blk_below (g := gb218) (o := .cells #[.int .i64 a0_0, .int .i64 a0_1, .slice A0_2 l0_2.length c0_2, .slice A0_3 l0_3.length c0_3] 25 (0, 0)) (by (with_reducible repeat (first | refine blk_drewN ?_ _ | refine blk_drew ?_ | refine blk_alloc ?_ _)); exact BK218.out) hb); have n2_ := Aside0.mk (below_step (by repeat (first | (with_reducible first | exact HB.out | apply below_alloc | apply pw_below_drewN | apply below_drew1 | refine below_set ?_ GE218.out) | exact HB.out)) hb); clear BK218; clear HB; have HO221 := n0_; have BK218 := n1_; have HB := n2_; clear n0_ n1_ n2_; (try clear hb); (try clear hb2); (try clear hk); (try clear hi); (try clear ho0)))
  go_ret
  exact ⟨_, by first | rfl | (simp [errW_none, errW_some] <;> rfl) | (simp [*, errW_none, errW_some] <;> rfl), by (with_reducible repeat (first | apply Kd.R_alloc | apply Kd.R_drewN | apply Kd.R_drew)); exact HO221.out, by repeat (first | (with_reducible first | exact HB.out | apply below_alloc | apply pw_below_drewN | apply below_drew1 | refine below_set ?_ GE218.out) | exact HB.out)⟩

/-! ### gramaryelaw10_EmptyTells: function 5 -/
/-- What EmptyTells answers behind its calls. -/
def gramaryelaw10_EmptyTells.g (k : Nat) (b : Int × Int × List Int × List S51) (x y : List Bool × Int) (m : Int) : Option Bool :=
  if m = 0 then (if x.2 = 0 then (if y.2 = 0 then (gramaryeref10_Nothing.f k b.1 b.2.1 b.2.2.1 b.2.2.2).bind fun rn => (gramaryelaw10_same.f k x.1 rn).bind fun s1 =>
    (if s1 = true then (gramaryeref10_Ends.f k b.1 b.2.1 b.2.2.1 b.2.2.2).bind fun re => (gramaryelaw10_same.f k y.1 re).bind fun s2 => (if s2 = true then gramaryelaw10_works.f k else some false) else some false) else some false) else some false)
  else (if x.2 = m then (if y.2 = m then (if wrap64 ((x.1.length : Int) + (y.1.length : Int)) = 0 then gramaryelaw10_works.f k else some false) else some false) else some false)
def gramaryelaw10_EmptyTells.f (k : Nat) (a0_0 : Int) (a0_1 : Int) (l0_2 : List Int) (l0_3 : List S51) (l1 : List S59) : Option Bool :=
  (gramaryeref09_Few.f k a0_0 a0_1 l0_2 l0_3 40 60).bind fun b =>
  (gramaryeref09_Few.f k b.1 b.2.1 b.2.2.1 b.2.2.2 40 60).bind fun b1 =>
  (empty_Nothing.f b1.1 b1.2.1 b1.2.2.1 b1.2.2.2).bind fun x => (empty_Ends.f b1.1 b1.2.1 b1.2.2.1 b1.2.2.2).bind fun y =>
  (empty_Row.f b.1 b.2.1 b.2.2.1 b.2.2.2 (l1.take 10)).bind fun p => (gramaryeref10_Row.f k b.1 b.2.1 b.2.2.1 b.2.2.2 (l1.take 10)).bind fun q =>
  if p = q then (gramaryeref09_May.f k b.1 b.2.1 b.2.2.1 b.2.2.2).bind fun m => gramaryelaw10_EmptyTells.g k b x y m else some false
set_option maxHeartbeats 8000000 in
set_option maxRecDepth 100000 in
theorem gramaryelaw10_EmptyTells.calls (k : Nat) (a0_0 : Int) (a0_1 : Int) (A0_2 : Option Addr) (c0_2 : Nat) (l0_2 : List Int) (A0_3 : Option Addr) (c0_3 : Nat) (l0_3 : List (S51)) (A1 : Option Addr) (c1 : Nat) (l1 : List (S59)) (r : Bool) (w : World) (hr0_2 : Kd.C (Kd.int .i64) w A0_2 l0_2.length l0_2) (hc0_2 : l0_2.length ≤ c0_2) (hr0_3 : Kd.C k51 w A0_3 l0_3.length l0_3) (hc0_3 : l0_3.length ≤ c0_3) (hr1 : Kd.C k59 w A1 l1.length l1) (hc1 : l1.length ≤ c1) (h : gramaryelaw10_EmptyTells.f k a0_0 a0_1 l0_2 l0_3 l1 = some r) :
    Calls Try.prog 5 #[.agg #[.int .i64 a0_0, .int .i64 a0_1, .slice A0_2 l0_2.length c0_2, .slice A0_3 l0_3.length c0_3], .slice A1 l1.length c1] w fun e w' => e = .returned (.bool r) ∧ Below w.heap.size w w' := by
  obtain ⟨⟨t, lk, o, L⟩, hF1, h0⟩ := Option.bind_eq_some_iff.1 h
  obtain ⟨⟨t', lk', o', L'⟩, hF2, h1⟩ := Option.bind_eq_some_iff.1 h0
  obtain ⟨⟨x, xe⟩, hN, h2⟩ := Option.bind_eq_some_iff.1 h1
  obtain ⟨⟨y, ye⟩, hE, h3⟩ := Option.bind_eq_some_iff.1 h2
  obtain ⟨p, hP, h4⟩ := Option.bind_eq_some_iff.1 h3
  obtain ⟨q, hQ, h5⟩ := Option.bind_eq_some_iff.1 h4
  clear h h0 h1 h2 h3 h4
  simp only at hF2 hN hE hP hQ h5
  have HN := Aside0.mk hN
  have HE := Aside0.mk hE
  have HP := Aside0.mk hP
  have HQ := Aside0.mk hQ
  have H := Aside0.mk h5
  have HF2 := Aside0.mk hF2
  have HFEW := Aside0.mk (fun (W : World) (hb : Below w.heap.size w W) => gramaryeref09_Few.calls k a0_0 a0_1 A0_2 c0_2 l0_2 A0_3 c0_3 l0_3 40 60 t lk o L W (Kd.C_below hr0_2 hb) hc0_2 (Kd.C_below hr0_3 hb) hc0_3 hF1)
  have HR1 := Aside0.mk hr1
  have HC1 := Aside0.mk hc1
  have hbig : l1.length ≤ 9223372036854775807 := hr1.2.1
  clear hF1 hF2 hN hE hP hQ h5 hr0_2 hr0_3 hr1 hc0_2 hc0_3
  go_enter Try.func5, Try.ntmps5
  go_wp2_with fail
  refine (HFEW.out _ (below_alloc (Below.refl _ _) _)).mono ?_
  rintro e w1 ⟨v2, v3, rfl, hR2, hS3, hb⟩
  obtain ⟨A2, c2, hv2, l2, r2⟩ := Kd.R_reads hR2
  obtain ⟨A3, c3, hv3, l3, r3⟩ := Kd.S_reads hS3
  subst hv2 hv3
  have hbx : w1.heap[w.heap.size]? = some (.cells #[.int .i64 a0_0, .int .i64 a0_1, .slice A0_2 l0_2.length c0_2, .slice A0_3 l0_3.length c0_3] 25 (0, 0)) := (hb.block _ (by simp)).trans (hp_new rfl)
  have HB1 := Aside0.mk (below_step (below_alloc (Below.refl _ _) _) hb)
  have x0 : w1.cell? ⟨w.heap.size, 0, none⟩ = some (.int .i64 a0_0) := (blk_cell hbx 0).trans rfl
  have x1 : w1.cell? ⟨w.heap.size, 1, none⟩ = some (.int .i64 a0_1) := (blk_cell hbx 1).trans rfl
  have x2 : w1.cell? ⟨w.heap.size, 2, none⟩ = some (.slice A0_2 l0_2.length c0_2) := (blk_cell hbx 2).trans rfl
  have x3 : w1.cell? ⟨w.heap.size, 3, none⟩ = some (.slice A0_3 l0_3.length c0_3) := (blk_cell hbx 3).trans rfl
  have f0 := blk_frozen hbx 0
  have f1 := blk_frozen hbx 1
  have f2 := blk_frozen hbx 2
  have f3 := blk_frozen hbx 3
  have HBX := Aside0.mk hbx
  have HR2 := Aside0.mk r2
  have HR3 := Aside0.mk r3
  have HL2 := Aside0.mk l2
  have HL3 := Aside0.mk l3
  have HS3 := Aside0.mk hS3
  have HRR2 := Aside0.mk hR2
  clear r2 r3 l2 l3 hbx hb HFEW hR2 hS3
  go_upto_region 2 with (fail)
  obtain ⟨W2, hW2⟩ : ∃ W2, W2 = (((w1.setCell ⟨w.heap.size, 0, none⟩ (.int .i64 t)).setCell ⟨w.heap.size, 1, none⟩ (.int .i64 lk)).setCell ⟨w.heap.size, 2, none⟩ (.slice A2 o.length c2)).setCell ⟨w.heap.size, 3, none⟩ (.slice A3 L.length c3) := ⟨_, rfl⟩
  have hbk : W2.heap[w.heap.size]? = some (.cells #[.int .i64 t, .int .i64 lk, .slice A2 o.length c2, .slice A3 L.length c3] 25 (0, 0)) := by
    rw [hW2]
    refine blk_put (cs := #[.int .i64 t, .int .i64 lk, .slice A2 o.length c2, .slice A0_3 l0_3.length c0_3]) ?_ 3 _ rfl
    refine blk_put (cs := #[.int .i64 t, .int .i64 lk, .slice A0_2 l0_2.length c0_2, .slice A0_3 l0_3.length c0_3]) ?_ 2 _ rfl
    refine blk_put (cs := #[.int .i64 t, .int .i64 a0_1, .slice A0_2 l0_2.length c0_2, .slice A0_3 l0_3.length c0_3]) ?_ 1 _ rfl
    refine blk_put (cs := #[.int .i64 a0_0, .int .i64 a0_1, .slice A0_2 l0_2.length c0_2, .slice A0_3 l0_3.length c0_3]) ?_ 0 _ rfl
    exact HBX.out
  have hstep : ∀ k, w.heap.size + 1 ≤ k → W2.heap[k]? = w1.heap[k]? := by
    intro k hk
    rw [hW2, Below.heap_setCell _ ⟨w.heap.size, 3, none⟩ _ _ (by show k ≠ w.heap.size; omega), Below.heap_setCell _ ⟨w.heap.size, 2, none⟩ _ _ (by show k ≠ w.heap.size; omega), Below.heap_setCell _ ⟨w.heap.size, 1, none⟩ _ _ (by show k ≠ w.heap.size; omega), Below.heap_setCell _ ⟨w.heap.size, 0, none⟩ _ _ (by show k ≠ w.heap.size; omega)]
  have HR2' := Aside0.mk (Kd.R_reads' (Kd.R_step (Kd.R_mono (ok' := fun k => w.heap.size + 1 ≤ k) (Kd.R_bound HRR2.out) (fun k hk => by have := hk.2.1; simpa using this)) (fun k hk _ => hstep k hk))).2.2
  have HR3' := Aside0.mk (Kd.R_reads' (Kd.R_step (Kd.R_mono (ok' := fun k => w.heap.size + 1 ≤ k) (Kd.R_bound (Kd.S_R HS3.out)) (fun k hk => by have := hk.2.1; simpa using this)) (fun k hk _ => hstep k hk))).2.2
  have HB2 := Aside0.mk (show Below w.heap.size w W2 by rw [hW2]; exact below_set (below_set (below_set (below_set HB1.out (Nat.le_refl _)) (Nat.le_refl _)) (Nat.le_refl _)) (Nat.le_refl _))
  have y0 : W2.cell? ⟨w.heap.size, 0, none⟩ = some (.int .i64 t) := (blk_cell hbk 0).trans rfl
  have y1 : W2.cell? ⟨w.heap.size, 1, none⟩ = some (.int .i64 lk) := (blk_cell hbk 1).trans rfl
  have y2 : W2.cell? ⟨w.heap.size, 2, none⟩ = some (.slice A2 o.length c2) := (blk_cell hbk 2).trans rfl
  have y3 : W2.cell? ⟨w.heap.size, 3, none⟩ = some (.slice A3 L.length c3) := (blk_cell hbk 3).trans rfl
  rw [← hW2]
  have HBK := Aside0.mk hbk
  clear hW2 hbk hstep x0 x1 x2 x3 f0 f1 f2 f3 HBX HR2 HR3 HS3 HRR2 HB1
  obtain ⟨m, hm⟩ : ∃ m, m = min l1.length 10 := ⟨_, rfl⟩
  have hml : m ≤ l1.length := by omega
  have htk : l1.take 10 = l1.take m := by
    rcases Nat.le_total l1.length 10 with h | h
    · rw [hm, Nat.min_eq_left h, List.take_of_length_le h, List.take_of_length_le (Nat.le_refl _)]
    · rw [hm, Nat.min_eq_right h]
  have hl5 : (l1.take 10).length = m := by rw [List.length_take]; omega
  have HCT := Aside0.mk (Kd.C_take (m := m) HR1.out hml)
  rw [← htk] at HCT
  generalize l1.take 10 = l5 at HP HQ HCT hl5
  have hcut : ∀ (j : Int), j = (l5.length : Int) → ∀ W, (Instr.slice 38 (.slice A1 l1.length c1) none (some (.int .i64 j)) none).run Try.prog W = .ok (.slice A1 l5.length c1) W := by
    intro j hj W
    subst hj
    obtain ⟨i0, hi0, _⟩ := info_parts info59
    have h := cut_to 38 59 .i64 Try.underlying38 hi0 A1 l1.length c1 (l5.length : Int) (by omega) (by omega) hc1 W
    rwa [Int.toNat_natCast] at h
  have hsplit : (∀ W, (Instr.slice 38 (.slice A1 l1.length c1) none (some (.int .i64 10)) none).run Try.prog W = .ok (.slice A1 l5.length c1) W) ∧ (10 : Int) < (l1.length : Int) ∨ (∀ W, (Instr.slice 38 (.slice A1 l1.length c1) none (some (.int .i64 (l1.length : Int))) none).run Try.prog W = .ok (.slice A1 l5.length c1) W) ∧ ¬ (10 : Int) < (l1.length : Int) := by
    by_cases h : (10 : Int) < (l1.length : Int)
    · exact .inl ⟨hcut 10 (by omega), h⟩
    · exact .inr ⟨hcut _ (by omega), h⟩
  have hlm : l5.length ≤ 10 := by omega
  have hsz2 : w.heap.size < W2.heap.size := blk_lt HBK.out
  clear hcut hm htk hml hl5
  rcases hsplit with ⟨hcut, hten⟩ | ⟨hcut, hten⟩
  all_goals
    go_wp2_with (first
      | ((with_reducible refine gate_dst (N := 12) rfl ?_); (try (refine gate_guard (by rfl) ?_; dsimp only)); refine Kd.R_lit k59 _ 59 ?hg (N := 12) ?hd (xs := ([] : List (S59))) (inner := []) (ok := fun _ => True) (okp := fun _ => True) ?hr ?hp (fun _ hk => hk) trivial (Below.refl _ _) (Nat.le_refl _) (by simp) ?_; (case hd => rfl); (case hg => rfl); (case hr => first | (go_simp; done) | (go_simp; rfl)); (case hp => exact (Reps.none _ _)); intro v12 W3 ho3 hb3 hg_ hnew_; clear hg_ hnew_; have HO3 := Aside0.mk ho3; have HBE := Aside0.mk hb3; clear ho3 hb3)
      | ((with_reducible refine gate_builtin (b := .append) (xs := #[.tmp 12, .tmp 17]) rfl ?_); (try (refine gate_guard (by rfl) ?_; dsimp only)); at_builtin; refine Kd.R_append_rows k59 (w0 := W2) W2.heap.size rfl (.tmp 12) (.tmp 17) 38 59 (.agg #[(.bool false), (.int .i64 0)]) 16 rfl Try.underlying38 info59 rfl (by decide) (by omega) v12 [] l5 _ _ _ (fun _ => True) (fun _ => False) rfl rfl HO3.out (Kd.C_below (Kd.C_below HCT.out HB2.out) HBE.out) (fun _ _ h => h) (fun _ h => h.elim) (fun _ _ => trivial) HBE.out HBE.out.size (by simp only [List.length_nil]; omega) ?_; intro v18 W4 ho4 hb4 hg_ hat_; clear hg_ hat_; rw [List.nil_append] at ho4; obtain ⟨A5, c5, hv18, hl5, hr5⟩ := Kd.R_reads ho4; subst hv18; have HR5 := Aside0.mk hr5; have HL5 := Aside0.mk hl5; have z0 := pw_cell_below hb4 y0; have z1 := pw_cell_below hb4 y1; have z2 := pw_cell_below hb4 y2; have z3 := pw_cell_below hb4 y3; have HB4 := Aside0.mk (below_step HB2.out hb4); have HB24 := Aside0.mk hb4; clear ho4 hb4 HO3 hr5 hl5 y0 y1 y2 y3))
    have HF6 := Aside0.mk (gramaryeref09_Few.calls k t lk A2 c2 o A3 c3 L 40 60 t' lk' o' L' W4 (Kd.C_below HR2'.out HB24.out) HL2.out (Kd.C_below HR3'.out HB24.out) HL3.out HF2.out)
    refine HF6.out.mono ?_
    rintro e W5 ⟨u6, v6, rfl, hR6, hS6, hb6⟩
    obtain ⟨A6, c6, hu6, l6, r6⟩ := Kd.R_reads hR6
    obtain ⟨D6, d6, hv6, m6, s6⟩ := Kd.S_reads hS6
    subst hu6 hv6
    have HCA6 := Aside0.mk r6
    have HCD6 := Aside0.mk s6
    have HLA6 := Aside0.mk l6
    have HLD6 := Aside0.mk m6
    have HB25 := Aside0.mk (below_step HB24.out hb6)
    have a0 := pw_cell_below hb6 z0
    have a1 := pw_cell_below hb6 z1
    have a2 := pw_cell_below hb6 z2
    have a3 := pw_cell_below hb6 z3
    have HX0 := empty_Nothing.calls t' lk' A6 c6 o' D6 d6 L' x xe W5 r6 l6 s6 m6 HN.out
    have HX := Aside0.mk HX0
    have HB45 := Aside0.mk hb6
    clear HF6 hR6 hS6 hb6 r6 s6 m6 l6 HX0 z0 z1 z2 z3 HB24
    go_wp2_with fail
    refine HX.out.mono ?_
    rintro e W6 ⟨vx, rfl, hRx, hbx⟩
    obtain ⟨Ax, cx, hvx, lx, rx⟩ := Kd.R_reads hRx
    subst hvx
    have HCX := Aside0.mk rx
    have HLX := Aside0.mk lx
    have HB26 := Aside0.mk (below_step HB25.out hbx)
    have HB46 := Aside0.mk (below_step HB45.out hbx)
    have HBX6 := Aside0.mk hbx
    have z0 := pw_cell_below hbx a0
    have z1 := pw_cell_below hbx a1
    have z2 := pw_cell_below hbx a2
    have z3 := pw_cell_below hbx a3
    clear HX hRx hbx rx lx a0 a1 a2 a3 HB25 HCA6 HCD6 HLA6 HLD6
    go_wp2_with fail
    have HF8 := Aside0.mk (gramaryeref09_Few.calls k t lk A2 c2 o A3 c3 L 40 60 t' lk' o' L' W6 (Kd.C_below HR2'.out HB26.out) HL2.out (Kd.C_below HR3'.out HB26.out) HL3.out HF2.out)
    refine HF8.out.mono ?_
    rintro e W7 ⟨u8, v8, rfl, hR8, hS8, hb8⟩
    obtain ⟨A8, c8, hu8, l8, r8⟩ := Kd.R_reads hR8
    obtain ⟨D8, d8, hv8, m8, s8⟩ := Kd.S_reads hS8
    subst hu8 hv8
    have HCA8 := Aside0.mk r8
    have HCD8 := Aside0.mk s8
    have HLA8 := Aside0.mk l8
    have HLD8 := Aside0.mk m8
    have HB27 := Aside0.mk (below_step HB26.out hb8)
    have a0 := pw_cell_below hb8 z0
    have a1 := pw_cell_below hb8 z1
    have a2 := pw_cell_below hb8 z2
    have a3 := pw_cell_below hb8 z3
    have HY0 := empty_Ends.calls t' lk' A8 c8 o' D8 d8 L' y ye W7 r8 l8 s8 m8 HE.out
    have HY := Aside0.mk HY0
    have HX7 := Aside0.mk (Kd.C_below HCX.out hb8)
    have HB47 := Aside0.mk (below_step HB46.out hb8)
    clear HF8 hR8 hS8 hb8 r8 s8 m8 l8 HY0 z0 z1 z2 z3 HB26 HCX HBX6
    go_wp2_with fail
    refine HY.out.mono ?_
    rintro e W8 ⟨vy, rfl, hRy, hby⟩
    obtain ⟨Ay, cy, hvy, ly, ry⟩ := Kd.R_reads hRy
    subst hvy
    have HCY := Aside0.mk ry
    have HLY := Aside0.mk ly
    have HB28 := Aside0.mk (below_step HB27.out hby)
    have HX8 := Aside0.mk (Kd.C_below HX7.out hby)
    have HB48 := Aside0.mk (below_step HB47.out hby)
    have z0 := pw_cell_below hby a0
    have z1 := pw_cell_below hby a1
    have z2 := pw_cell_below hby a2
    have z3 := pw_cell_below hby a3
    clear HY hRy hby ry ly a0 a1 a2 a3 HB27 HX7 HCA8 HCD8 HLA8 HLD8
    have HROW := Aside0.mk (fun (W : World) (hb : Below W8.heap.size W8 W) => empty_Row.calls t lk A2 c2 o A3 c3 L A5 c5 l5 p W (Kd.C_below (Kd.C_below HR2'.out HB28.out) hb) HL2.out (Kd.C_below (Kd.C_below HR3'.out HB28.out) hb) HL3.out (Kd.C_below (Kd.C_below HR5.out HB48.out) hb) HL5.out HP.out)
    have HREF := Aside0.mk (fun (W : World) (hb : Below W8.heap.size W8 W) => gramaryeref10_Row.calls k t lk A2 c2 o A3 c3 L A5 c5 l5 q W (Kd.C_below (Kd.C_below HR2'.out HB28.out) hb) HL2.out (Kd.C_below (Kd.C_below HR3'.out HB28.out) hb) HL3.out (Kd.C_below (Kd.C_below HR5.out HB48.out) hb) HL5.out HQ.out)
    have HMAY := Aside0.mk (fun (m : Int) (W : World) (hb : Below W8.heap.size W8 W) (hm : gramaryeref09_May.f k t lk o L = some m) => gramaryeref09_May.calls k t lk A2 c2 o A3 c3 L m W (Kd.C_below (Kd.C_below HR2'.out HB28.out) hb) HL2.out (Kd.C_below (Kd.C_below HR3'.out HB28.out) hb) HL3.out hm)
    have HRNO := Aside0.mk (fun (m : List Bool) (W : World) (hb : Below W8.heap.size W8 W) (hm : gramaryeref10_Nothing.f k t lk o L = some m) => gramaryeref10_Nothing.calls k t lk A2 c2 o A3 c3 L m W (Kd.C_below (Kd.C_below HR2'.out HB28.out) hb) HL2.out (Kd.C_below (Kd.C_below HR3'.out HB28.out) hb) HL3.out hm)
    have HREN := Aside0.mk (fun (m : List Bool) (W : World) (hb : Below W8.heap.size W8 W) (hm : gramaryeref10_Ends.f k t lk o L = some m) => gramaryeref10_Ends.calls k t lk A2 c2 o A3 c3 L m W (Kd.C_below (Kd.C_below HR2'.out HB28.out) hb) HL2.out (Kd.C_below (Kd.C_below HR3'.out HB28.out) hb) HL3.out hm)
    have hb88 := Below.refl W8.heap.size W8
    go_wp2_with fail
    go_region_held3 (fun w' => Below W8.heap.size W8 w' ∧ w'.cell? ⟨w.heap.size, 0, none⟩ = some (.int .i64 t) ∧ w'.cell? ⟨w.heap.size, 1, none⟩ = some (.int .i64 lk) ∧ w'.cell? ⟨w.heap.size, 2, none⟩ = some (.slice A2 o.length c2) ∧ w'.cell? ⟨w.heap.size, 3, none⟩ = some (.slice A3 L.length c3))
      (first
        | (go_split_ands; refine ⟨?_, ?_, ?_, ?_, ?_⟩ <;> first | assumption | (exact below_drew1 (by assumption)) | go_keep)
        | (go_split_ands; refine ⟨below_step (below_drew1 hb88) hbc, pw_cell_below (w := W8.drew) hbc z0, pw_cell_below (w := W8.drew) hbc z1, pw_cell_below (w := W8.drew) hbc z2, pw_cell_below (w := W8.drew) hbc z3⟩)
        | (go_split_ands; refine ⟨below_step (by first | assumption | exact below_drew1 (by assumption)) hbd, pw_cell_below hbd (by first | assumption | go_keep), pw_cell_below hbd (by first | assumption | go_keep), pw_cell_below hbd (by first | assumption | go_keep), pw_cell_below hbd (by first | assumption | go_keep)⟩))
      ((first | (go_at_call 18; refine (HROW.out _ (by first | assumption | exact below_drew1 (by assumption))).mono ?_; rintro e w' ⟨rfl, hbc⟩) | (go_at_call 19; refine (HREF.out _ (by first | exact below_step (below_drew1 hb88) hbc | exact below_drew1 (below_step (below_drew1 hb88) hbc))).mono ?_; rintro e w' ⟨rfl, hbd⟩)))
    have hb9 := below_step (below_step (below_drew1 hb88) hbc) hbd
    have a0 := pw_cell_below hb9 z0
    have a1 := pw_cell_below hb9 z1
    have a2 := pw_cell_below hb9 z2
    have a3 := pw_cell_below hb9 z3
    clear z0 z1 z2 z3 hbc hbd HROW HREF
    by_cases hpq : p = q
    · have H1 := H.out
      rw [if_pos hpq] at H1
      obtain ⟨m, hm, hg⟩ := Option.bind_eq_some_iff.1 H1
      have e1 : (p != q) = false := by simp [hpq]
      have e1' : (!(p == q)) = false := by simp [hpq]
      have e1'' : (p == q) = true := by simp [hpq]
      clear H1 H hpq
      rw [e1']
      go_wp2_with fail
      refine (HMAY.out m _ hb9 hm).mono ?_
      rintro e W10 ⟨rfl, hb10⟩
      have hb10' := below_step hb9 hb10
      unfold gramaryelaw10_EmptyTells.g at hg
      simp only at hg
      have b0 := pw_cell_below hb10 a0
      have b1 := pw_cell_below hb10 a1
      have b2 := pw_cell_below hb10 a2
      have b3 := pw_cell_below hb10 a3
      clear a0 a1 a2 a3 hb9 hb10 HMAY hm e1 e1' e1''
      by_cases hm0 : m = 0
      · rw [if_pos hm0] at hg
        have e2 : (m != 0) = false := by simp [hm0]
        have e3 : decide (m ≠ 0) = false := by simp [hm0]
        clear hm0
        by_cases hx0 : xe = 0
        · rw [if_pos hx0] at hg
          have e4 : (xe == 0) = true := by simp [hx0]
          have e5 : decide (xe = 0) = true := by simp [hx0]
          clear hx0
          by_cases hy0 : ye = 0
          · rw [if_pos hy0] at hg
            have e6 : (ye == 0) = true := by simp [hy0]
            have e7 : decide (ye = 0) = true := by simp [hy0]
            clear hy0
            obtain ⟨rn, hrn, hg1⟩ := Option.bind_eq_some_iff.1 hg
            obtain ⟨s1, hs1, hg2⟩ := Option.bind_eq_some_iff.1 hg1
            clear hg hg1
            go_wp2_with fail
            refine (HRNO.out rn _ hb10' hrn).mono ?_
            rintro e W11 ⟨vn, rfl, hRn, hb11⟩
            obtain ⟨An, cn, hvn, ln, rn'⟩ := Kd.R_reads hRn
            subst hvn
            have hb11' := below_step hb10' hb11
            have HSM := Aside0.mk (gramaryelaw10_same.calls k Ax cx x An cn rn s1 W11 (Kd.C_below HX8.out hb11') HLX.out rn' ln hs1)
            have a0 := pw_cell_below hb11 b0
            have a1 := pw_cell_below hb11 b1
            have a2 := pw_cell_below hb11 b2
            have a3 := pw_cell_below hb11 b3
            clear b0 b1 b2 b3 hRn hb11 ln rn' hrn hs1 hb10' HRNO
            go_wp2_with fail
            refine HSM.out.mono ?_
            rintro e W12 ⟨rfl, hd⟩
            have hb12 := hd.below
            have hb12' := below_step hb11' hb12
            have b0 := pw_cell_below hb12 a0
            have b1 := pw_cell_below hb12 a1
            have b2 := pw_cell_below hb12 a2
            have b3 := pw_cell_below hb12 a3
            clear a0 a1 a2 a3 hd hb12 hb11' HSM
            cases s1 with
            | true =>
              rw [if_pos rfl] at hg2
              obtain ⟨re, hre, hg3⟩ := Option.bind_eq_some_iff.1 hg2
              obtain ⟨s2, hs2, hg⟩ := Option.bind_eq_some_iff.1 hg3
              clear hg2 hg3
              go_wp2_with fail
              refine (HREN.out re _ hb12' hre).mono ?_
              rintro e W13 ⟨ve, rfl, hRe, hb13⟩
              obtain ⟨Ae, ce, hve, le, re'⟩ := Kd.R_reads hRe
              subst hve
              have hb13' := below_step hb12' hb13
              have HSM := Aside0.mk (gramaryelaw10_same.calls k Ay cy y Ae ce re s2 W13 (Kd.C_below HCY.out hb13') HLY.out re' le hs2)
              clear b0 b1 b2 b3 hRe hb13 le re' hre hs2 hb12' HREN
              go_wp2_with fail
              refine HSM.out.mono ?_
              rintro e W14 ⟨rfl, hd⟩
              have hb14 := below_step hb13' hd.below
              clear hd hb13' HSM
              cases s2 with
              | true =>
                rw [if_pos rfl] at hg
                go_wp2_with fail
                refine (gramaryelaw10_works.calls k r _ hg).mono ?_
                rintro e WW ⟨rfl, hbw⟩
                have HBW := Aside0.mk (below_step (below_step HB2.out HB28.out) (below_step hb14 hbw))
                clear hbw
                go_wp2_with fail
                go_ret
                exact ⟨rfl, HBW.out⟩
              | false =>
                rw [if_neg (by decide)] at hg
                obtain rfl : false = r := by simpa using hg
                go_wp2_with fail
                go_ret
                exact ⟨rfl, below_step (below_step HB2.out HB28.out) hb14⟩
            | false =>
              rw [if_neg (by decide)] at hg2
              have hg := hg2
              clear hg2
              obtain rfl : false = r := by simpa using hg
              go_wp2_with fail
              go_ret
              exact ⟨rfl, below_step (below_step HB2.out HB28.out) hb12'⟩
          · rw [if_neg hy0] at hg
            have e6 : (ye == 0) = false := by simp [hy0]
            have e7 : decide (ye = 0) = false := by simp [hy0]
            clear hy0
            obtain rfl : false = r := by simpa using hg
            go_wp2_with fail
            go_ret
            exact ⟨rfl, below_step (below_step HB2.out HB28.out) hb10'⟩
        · rw [if_neg hx0] at hg
          have e4 : (xe == 0) = false := by simp [hx0]
          have e5 : decide (xe = 0) = false := by simp [hx0]
          clear hx0
          obtain rfl : false = r := by simpa using hg
          go_wp2_with fail
          go_ret
          exact ⟨rfl, below_step (below_step HB2.out HB28.out) hb10'⟩
      · rw [if_neg hm0] at hg
        have e2 : (m != 0) = true := by simp [hm0]
        have e3 : decide (m ≠ 0) = true := by simp [hm0]
        clear hm0
        by_cases hx0 : xe = m
        · rw [if_pos hx0] at hg
          have e4 : (xe == m) = true := by simp [hx0]
          have e5 : decide (xe = m) = true := by simp [hx0]
          clear hx0
          by_cases hy0 : ye = m
          · rw [if_pos hy0] at hg
            have e6 : (ye == m) = true := by simp [hy0]
            have e7 : decide (ye = m) = true := by simp [hy0]
            have hxl := HX8.out.2.1
            have hyl := HCY.out.2.1
            clear hy0
            by_cases hz0 : wrap64 ((x.length : Int) + (y.length : Int)) = 0
            · rw [if_pos hz0] at hg
              have e8 : (wrap64 ((x.length : Int) + (y.length : Int)) == 0) = true := beq_iff_eq.2 hz0
              have e9 : decide (wrap64 ((x.length : Int) + (y.length : Int)) = 0) = true := decide_eq_true hz0
              clear hz0
              go_wp2_with fail
              refine (gramaryelaw10_works.calls k r _ hg).mono ?_
              rintro e WW ⟨rfl, hbw⟩
              have HBW := Aside0.mk (below_step (below_step HB2.out HB28.out) (below_step hb10' hbw))
              clear hbw
              go_wp2_with fail
              go_ret
              exact ⟨rfl, HBW.out⟩
            · rw [if_neg hz0] at hg
              have e8 : (wrap64 ((x.length : Int) + (y.length : Int)) == 0) = false := beq_eq_false_iff_ne.2 hz0
              have e9 : decide (wrap64 ((x.length : Int) + (y.length : Int)) = 0) = false := decide_eq_false hz0
              clear hz0
              obtain rfl : false = r := by simpa using hg
              go_wp2_with fail
              go_ret
              exact ⟨rfl, below_step (below_step HB2.out HB28.out) hb10'⟩
          · rw [if_neg hy0] at hg
            have e6 : (ye == m) = false := by simp [hy0]
            have e7 : decide (ye = m) = false := by simp [hy0]
            clear hy0
            obtain rfl : false = r := by simpa using hg
            go_wp2_with fail
            go_ret
            exact ⟨rfl, below_step (below_step HB2.out HB28.out) hb10'⟩
        · rw [if_neg hx0] at hg
          have e4 : (xe == m) = false := by simp [hx0]
          have e5 : decide (xe = m) = false := by simp [hx0]
          clear hx0
          obtain rfl : false = r := by simpa using hg
          go_wp2_with fail
          go_ret
          exact ⟨rfl, below_step (below_step HB2.out HB28.out) hb10'⟩
    · have H1 := H.out
      rw [if_neg hpq] at H1
      have hg := H1
      have e1 : (p != q) = true := bne_iff_ne.mpr hpq
      have e1' : (!(p == q)) = true := by simp [hpq]
      have e1'' : (p == q) = false := by simp [hpq]
      clear H1 H hpq
      rw [e1']
      obtain rfl : false = r := by simpa using hg
      go_wp2_with fail
      go_ret
      exact ⟨rfl, below_step (below_step HB2.out HB28.out) hb9⟩


end Go.Proofs.Ytmpdilifoblnaaa.MEmptyTells
