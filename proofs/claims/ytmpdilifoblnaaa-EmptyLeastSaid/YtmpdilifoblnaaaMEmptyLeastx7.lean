-- A text of this claim (written by this repo's wip/myprint.py).
import Derived.Test.YtmpdilifoblnaaaMEmptyLeastx0
namespace Go.Proofs.Ytmpdilifoblnaaa.MEmptyLeast
open Go.RowKit Go.Proofs.YtmpdilifoblnaaaW.PrintWords Go.Proofs.YtmpdilifoblnaaaW.PrintLast Go.Proofs.YtmpdilifoblnaaaW.PrintMore Go.Proofs.Ytmpdilifoblnaaa.Fun Go.Proofs.Ytmpdilifoblnaaa.Mem
attribute [local go_sem] max2_int min2_int max_two min_two max_three min_three max_four min_four   -- for this text's walks alone
set_option linter.unusedVariables false
set_option linter.unusedSimpArgs false

/-! ### gramaryeref10_Least: function 15 -/
mutual
def gramaryeref10_Least.l0 : Nat → List Int → Int → Int → Int → List Int → List (S51) → Option (List Int)
  | 0, _, _, _, _, _, _ => none
  | k + 1, x3, x4, x187000, x187001, x187002, x187003 => if x4 < (x3.length : Int) then (if 0 ≤ x4 then (gramaryeref10_Least.l0 k (x3.set (x4 : Int).toNat (-1)) (wrap64 (x4 + 1)) x187000 x187001 x187002 x187003) else (none)) else (gramaryeref10_Least.l1 k x3 true x187000 x187001 x187002 x187003)
def gramaryeref10_Least.l1 : Nat → List Int → Bool → Int → Int → List Int → List (S51) → Option (List Int)
  | 0, _, _, _, _, _, _ => none
  | k + 1, x3, x5, x187000, x187001, x187002, x187003 => if x5 = true then (gramaryeref10_Least.l2 k x3 false 0 x187000 x187001 x187002 x187003) else (some x3)
def gramaryeref10_Least.l2 : Nat → List Int → Bool → Int → Int → Int → List Int → List (S51) → Option (List Int)
  | 0, _, _, _, _, _, _, _ => none
  | k + 1, x3, x5, x6, x187000, x187001, x187002, x187003 => if x6 < (x187003.length : Int) then (gramaryeref10_Least.l3 k x3 x5 x6 0 0 x187000 x187001 x187002 x187003) else (gramaryeref10_Least.l1 k x3 x5 x187000 x187001 x187002 x187003)
def gramaryeref10_Least.l3 : Nat → List Int → Bool → Int → Int → Int → Int → Int → List Int → List (S51) → Option (List Int)
  | 0, _, _, _, _, _, _, _, _, _ => none
  | k + 1, x3, x5, x6, x7, x8, x187000, x187001, x187002, x187003 => if 0 ≤ x6 then (if x6 < (x187003.length : Int) then (if x8 < (((rd_T51 x187003 x6).f1).length : Int) then (gramaryeref10_Least.j4 k x3 x5 x6 x7 x8 (decide (x7 ≥ 0)) x187000 x187001 x187002 x187003) else (gramaryeref10_Least.j4 k x3 x5 x6 x7 x8 false x187000 x187001 x187002 x187003)) else (none)) else (none)
def gramaryeref10_Least.j4 : Nat → List Int → Bool → Int → Int → Int → Bool → Int → Int → List Int → List (S51) → Option (List Int)
  | 0, _, _, _, _, _, _, _, _, _, _ => none
  | k + 1, x3, x5, x6, x7, x8, x44, x187000, x187001, x187002, x187003 => if x44 = true then (if 0 ≤ x6 then (if x6 < (x187003.length : Int) then (if 0 ≤ x8 then (if x8 < (((rd_T51 x187003 x6).f1).length : Int) then (if (rd_T59 ((rd_T51 x187003 x6).f1) x8).f0 = true then (gramaryeref10_Least.l3 k x3 x5 x6 (wrap64 (x7 + 1)) (wrap64 (x8 + 1)) x187000 x187001 x187002 x187003) else (if 0 ≤ ((rd_T59 ((rd_T51 x187003 x6).f1) x8).f1) then (if ((rd_T59 ((rd_T51 x187003 x6).f1) x8).f1) < (x3.length : Int) then (if (rd x3 ((rd_T59 ((rd_T51 x187003 x6).f1) x8).f1)) < 0 then (gramaryeref10_Least.l3 k x3 x5 x6 (-1) (wrap64 (x8 + 1)) x187000 x187001 x187002 x187003) else (gramaryeref10_Least.l3 k x3 x5 x6 (wrap64 (x7 + (rd x3 ((rd_T59 ((rd_T51 x187003 x6).f1) x8).f1)))) (wrap64 (x8 + 1)) x187000 x187001 x187002 x187003)) else (none)) else (none))) else (none)) else (none)) else (none)) else (none)) else (if 0 ≤ x6 then (if x6 < (x187003.length : Int) then (if (mn x7 1000000) ≥ 0 then (if 0 ≤ ((rd_T51 x187003 x6).f0) then (if ((rd_T51 x187003 x6).f0) < (x3.length : Int) then (if (rd x3 ((rd_T51 x187003 x6).f0)) < 0 then (gramaryeref10_Least.l2 k (x3.set (((rd_T51 x187003 x6).f0) : Int).toNat (mn x7 1000000)) true (wrap64 (x6 + 1)) x187000 x187001 x187002 x187003) else (if (mn x7 1000000) < (rd x3 ((rd_T51 x187003 x6).f0)) then (gramaryeref10_Least.l2 k (x3.set (((rd_T51 x187003 x6).f0) : Int).toNat (mn x7 1000000)) true (wrap64 (x6 + 1)) x187000 x187001 x187002 x187003) else (gramaryeref10_Least.l2 k x3 x5 (wrap64 (x6 + 1)) x187000 x187001 x187002 x187003))) else (none)) else (none)) else (gramaryeref10_Least.l2 k x3 x5 (wrap64 (x6 + 1)) x187000 x187001 x187002 x187003)) else (none)) else (none))
end
def gramaryeref10_Least.f (k : Nat) (a0_0 : Int) (a0_1 : Int) (l0_2 : List Int) (l0_3 : List (S51)) : Option (List Int) := if 0 ≤ (l0_2.length : Int) then (if ((l0_2.length : Int) : Int).toNat ≤ 35184372088832 then (gramaryeref10_Least.l0 k (List.replicate ((l0_2.length : Int) : Int).toNat 0) 0 a0_0 a0_1 l0_2 l0_3) else (none)) else (none)
theorem gramaryeref10_Least.mono_l : ∀ k, (∀ y0 y1 y2 y3 y4 y5, LeO (gramaryeref10_Least.l0 k y0 y1 y2 y3 y4 y5) (gramaryeref10_Least.l0 (k + 1) y0 y1 y2 y3 y4 y5)) ∧ (∀ y0 y1 y2 y3 y4 y5, LeO (gramaryeref10_Least.l1 k y0 y1 y2 y3 y4 y5) (gramaryeref10_Least.l1 (k + 1) y0 y1 y2 y3 y4 y5)) ∧ (∀ y0 y1 y2 y3 y4 y5 y6, LeO (gramaryeref10_Least.l2 k y0 y1 y2 y3 y4 y5 y6) (gramaryeref10_Least.l2 (k + 1) y0 y1 y2 y3 y4 y5 y6)) ∧ (∀ y0 y1 y2 y3 y4 y5 y6 y7 y8, LeO (gramaryeref10_Least.l3 k y0 y1 y2 y3 y4 y5 y6 y7 y8) (gramaryeref10_Least.l3 (k + 1) y0 y1 y2 y3 y4 y5 y6 y7 y8)) ∧ (∀ y0 y1 y2 y3 y4 y5 y6 y7 y8 y9, LeO (gramaryeref10_Least.j4 k y0 y1 y2 y3 y4 y5 y6 y7 y8 y9) (gramaryeref10_Least.j4 (k + 1) y0 y1 y2 y3 y4 y5 y6 y7 y8 y9))
  | 0 => ⟨fun _ _ _ _ _ _ r h => by simp [gramaryeref10_Least.l0] at h, fun _ _ _ _ _ _ r h => by simp [gramaryeref10_Least.l1] at h, fun _ _ _ _ _ _ _ r h => by simp [gramaryeref10_Least.l2] at h, fun _ _ _ _ _ _ _ _ _ r h => by simp [gramaryeref10_Least.l3] at h, fun _ _ _ _ _ _ _ _ _ _ r h => by simp [gramaryeref10_Least.j4] at h⟩
  | k + 1 => by
    obtain ⟨ih0, ih1, ih2, ih3, ih4⟩ := gramaryeref10_Least.mono_l k
    refine ⟨?_, ?_, ?_, ?_, ?_⟩
    · intro y0 y1 y2 y3 y4 y5
      unfold gramaryeref10_Least.l0
      repeat' first
      | (with_reducible exact ih0 _ _ _ _ _ _)
      | (with_reducible exact ih1 _ _ _ _ _ _)
      | (with_reducible exact ih2 _ _ _ _ _ _ _)
      | (with_reducible exact ih3 _ _ _ _ _ _ _ _ _)
      | (with_reducible exact ih4 _ _ _ _ _ _ _ _ _ _)
      | (with_reducible exact LeO.refl _)
      | (with_reducible exact LeO.none _)
      | (with_reducible refine LeO.ite ?_ ?_)
      | (with_reducible refine LeO.bind ?_ (fun _ => ?_))
      | exact ih0 _ _ _ _ _ _
      | exact ih1 _ _ _ _ _ _
      | exact ih2 _ _ _ _ _ _ _
      | exact ih3 _ _ _ _ _ _ _ _ _
      | exact ih4 _ _ _ _ _ _ _ _ _ _
      | exact LeO.none _
      | refine LeO.ite ?_ ?_
      | refine LeO.bind ?_ (fun _ => ?_)
    · intro y0 y1 y2 y3 y4 y5
      unfold gramaryeref10_Least.l1
      repeat' first
      | (with_reducible exact ih0 _ _ _ _ _ _)
      | (with_reducible exact ih1 _ _ _ _ _ _)
      | (with_reducible exact ih2 _ _ _ _ _ _ _)
      | (with_reducible exact ih3 _ _ _ _ _ _ _ _ _)
      | (with_reducible exact ih4 _ _ _ _ _ _ _ _ _ _)
      | (with_reducible exact LeO.refl _)
      | (with_reducible exact LeO.none _)
      | (with_reducible refine LeO.ite ?_ ?_)
      | (with_reducible refine LeO.bind ?_ (fun _ => ?_))
      | exact ih0 _ _ _ _ _ _
      | exact ih1 _ _ _ _ _ _
      | exact ih2 _ _ _ _ _ _ _
      | exact ih3 _ _ _ _ _ _ _ _ _
      | exact ih4 _ _ _ _ _ _ _ _ _ _
      | exact LeO.none _
      | refine LeO.ite ?_ ?_
      | refine LeO.bind ?_ (fun _ => ?_)
    · intro y0 y1 y2 y3 y4 y5 y6
      unfold gramaryeref10_Least.l2
      repeat' first
      | (with_reducible exact ih0 _ _ _ _ _ _)
      | (with_reducible exact ih1 _ _ _ _ _ _)
      | (with_reducible exact ih2 _ _ _ _ _ _ _)
      | (with_reducible exact ih3 _ _ _ _ _ _ _ _ _)
      | (with_reducible exact ih4 _ _ _ _ _ _ _ _ _ _)
      | (with_reducible exact LeO.refl _)
      | (with_reducible exact LeO.none _)
      | (with_reducible refine LeO.ite ?_ ?_)
      | (with_reducible refine LeO.bind ?_ (fun _ => ?_))
      | exact ih0 _ _ _ _ _ _
      | exact ih1 _ _ _ _ _ _
      | exact ih2 _ _ _ _ _ _ _
      | exact ih3 _ _ _ _ _ _ _ _ _
      | exact ih4 _ _ _ _ _ _ _ _ _ _
      | exact LeO.none _
      | refine LeO.ite ?_ ?_
      | refine LeO.bind ?_ (fun _ => ?_)
    · intro y0 y1 y2 y3 y4 y5 y6 y7 y8
      unfold gramaryeref10_Least.l3
      repeat' first
      | (with_reducible exact ih0 _ _ _ _ _ _)
      | (with_reducible exact ih1 _ _ _ _ _ _)
      | (with_reducible exact ih2 _ _ _ _ _ _ _)
      | (with_reducible exact ih3 _ _ _ _ _ _ _ _ _)
      | (with_reducible exact ih4 _ _ _ _ _ _ _ _ _ _)
      | (with_reducible exact LeO.refl _)
      | (with_reducible exact LeO.none _)
      | (with_reducible refine LeO.ite ?_ ?_)
      | (with_reducible refine LeO.bind ?_ (fun _ => ?_))
      | exact ih0 _ _ _ _ _ _
      | exact ih1 _ _ _ _ _ _
      | exact ih2 _ _ _ _ _ _ _
      | exact ih3 _ _ _ _ _ _ _ _ _
      | exact ih4 _ _ _ _ _ _ _ _ _ _
      | exact LeO.none _
      | refine LeO.ite ?_ ?_
      | refine LeO.bind ?_ (fun _ => ?_)
    · intro y0 y1 y2 y3 y4 y5 y6 y7 y8 y9
      unfold gramaryeref10_Least.j4
      repeat' first
      | (with_reducible exact ih0 _ _ _ _ _ _)
      | (with_reducible exact ih1 _ _ _ _ _ _)
      | (with_reducible exact ih2 _ _ _ _ _ _ _)
      | (with_reducible exact ih3 _ _ _ _ _ _ _ _ _)
      | (with_reducible exact ih4 _ _ _ _ _ _ _ _ _ _)
      | (with_reducible exact LeO.refl _)
      | (with_reducible exact LeO.none _)
      | (with_reducible refine LeO.ite ?_ ?_)
      | (with_reducible refine LeO.bind ?_ (fun _ => ?_))
      | exact ih0 _ _ _ _ _ _
      | exact ih1 _ _ _ _ _ _
      | exact ih2 _ _ _ _ _ _ _
      | exact ih3 _ _ _ _ _ _ _ _ _
      | exact ih4 _ _ _ _ _ _ _ _ _ _
      | exact LeO.none _
      | refine LeO.ite ?_ ?_
      | refine LeO.bind ?_ (fun _ => ?_)
theorem gramaryeref10_Least.mono : ∀ a0 a1 a2 a3 k, LeO (gramaryeref10_Least.f k a0 a1 a2 a3) (gramaryeref10_Least.f (k + 1) a0 a1 a2 a3) := by
  intro a0 a1 a2 a3 k
  obtain ⟨ih0, ih1, ih2, ih3, ih4⟩ := gramaryeref10_Least.mono_l k
  unfold gramaryeref10_Least.f
  repeat' first
      | (with_reducible exact ih0 _ _ _ _ _ _)
      | (with_reducible exact ih1 _ _ _ _ _ _)
      | (with_reducible exact ih2 _ _ _ _ _ _ _)
      | (with_reducible exact ih3 _ _ _ _ _ _ _ _ _)
      | (with_reducible exact ih4 _ _ _ _ _ _ _ _ _ _)
      | (with_reducible exact LeO.refl _)
      | (with_reducible exact LeO.none _)
      | (with_reducible refine LeO.ite ?_ ?_)
      | (with_reducible refine LeO.bind ?_ (fun _ => ?_))
      | exact ih0 _ _ _ _ _ _
      | exact ih1 _ _ _ _ _ _
      | exact ih2 _ _ _ _ _ _ _
      | exact ih3 _ _ _ _ _ _ _ _ _
      | exact ih4 _ _ _ _ _ _ _ _ _ _
      | exact LeO.none _
      | refine LeO.ite ?_ ?_
      | refine LeO.bind ?_ (fun _ => ?_)
set_option maxHeartbeats 8000000 in
set_option maxRecDepth 100000 in
theorem gramaryeref10_Least.calls (k : Nat) (a0_0 : Int) (a0_1 : Int) (A0_2 : Option Addr) (c0_2 : Nat) (l0_2 : List Int) (A0_3 : Option Addr) (c0_3 : Nat) (l0_3 : List (S51)) (r : List Int) (w : World) (hr0_2 : Kd.C (Kd.int .i64) w A0_2 l0_2.length l0_2) (hc0_2 : l0_2.length ≤ c0_2) (hr0_3 : Kd.C k51 w A0_3 l0_3.length l0_3) (hc0_3 : l0_3.length ≤ c0_3) (h : gramaryeref10_Least.f k a0_0 a0_1 l0_2 l0_3 = some r) :
    Calls Try.prog 15 #[.agg #[.int .i64 a0_0, .int .i64 a0_1, .slice A0_2 l0_2.length c0_2, .slice A0_3 l0_3.length c0_3]] w fun e w' => ∃ v0_ : Value, e = .returned (v0_) ∧ Kd.R (Kd.int .i64) 3 w' w.heap.size (fun _ => True) v0_ r ∧ Below w.heap.size w w' := by
  have hu25 := Try.underlying25
  have hu59 := Try.underlying59
  have HR0_2 := Aside0.mk hr0_2
  have HC0_2 := Aside0.mk hc0_2
  clear hr0_2 hc0_2
  have HR0_3 := Aside0.mk hr0_3
  have HC0_3 := Aside0.mk hc0_3
  clear hr0_3 hc0_3
  have HB := Aside0.mk (Below.refl w.heap.size w)
  have H : (if 0 ≤ (l0_2.length : Int) then (if ((l0_2.length : Int) : Int).toNat ≤ 35184372088832 then (gramaryeref10_Least.l0 k (List.replicate ((l0_2.length : Int) : Int).toNat 0) 0 a0_0 a0_1 l0_2 l0_3) else (none)) else (none)) = some r := h
  clear h
  by_cases c2 : 0 ≤ (l0_2.length : Int)
  · rw [if_pos c2] at H
    have c2b0 := eq_true c2
    have c2b1 : decide (0 ≤ (l0_2.length : Int)) = true := decide_eq_true c2
    clear c2
    by_cases c3 : ((l0_2.length : Int) : Int).toNat ≤ 35184372088832
    · rw [if_pos c3] at H
      have c3b0 := eq_true c3
      have c3b1 : decide (((l0_2.length : Int) : Int).toNat ≤ 35184372088832) = true := decide_eq_true c3
      clear c3
      obtain ⟨y187, hy187⟩ : ∃ y_ : List Int, y_ = (List.replicate ((l0_2.length : Int) : Int).toNat 0) := ⟨_, rfl⟩
      replace H : (gramaryeref10_Least.l0 k y187 0 a0_0 a0_1 l0_2 l0_3) = some r := by first | (rw [hy187]; with_reducible exact H) | (have H2_ := (Option.bind_some _ _).symm.trans H; rw [hy187]; with_reducible exact H2_) | (have H2_ := (Option.bind_some _ _).symm.trans H; with_reducible exact H2_) | with_reducible exact H | (rw [hy187]; exact H) | exact H
      have Ny187 := Aside0.mk hy187
      clear hy187
      have H' := Aside0.mk H
      clear H
      go_enter Try.func15, Try.ntmps15
      go_wp2_with (first | ((with_reducible refine gate_dst (N := 1) rfl ?_); refine box_event ?hg (N := 1) ?hd (cs := #[.int .i64 a0_0, .int .i64 a0_1, .slice A0_2 l0_2.length c0_2, .slice A0_3 l0_3.length c0_3]) (t := 25) ?hr ?_; (case hd => rfl); (case hg => rfl); (case hr => first | (go_simp; done) | (go_simp; rfl)); intro gb186 hg w4 hbox hb; have n0_ := Aside0.mk (below_step (by repeat (first | (with_reducible first | exact HB.out | apply below_alloc | apply pw_below_drewN | apply below_drew1) | exact HB.out)) hb); have n1_ := Aside0.mk (hbox); have n2_ := Aside0.mk ((by rw [hg]; exact (below_size (by repeat (first | (with_reducible first | exact HB.out | apply below_alloc | apply pw_below_drewN | apply below_drew1) | exact HB.out))) : w.heap.size ≤ gb186)); have n3_ := Aside0.mk ((by rw [hg]; exact (below_size (by repeat (first | (with_reducible first | exact HB.out | apply below_alloc | apply pw_below_drewN | apply below_drew1) | exact HB.out))) : w.heap.size ≤ gb186)); clear HB; have HB := n0_; have BK186 := n1_; have GW186 := n2_; have GE186 := n3_; clear n0_ n1_ n2_ n3_; clear hb hbox hg; have hcz5_0 : w4.cell? ⟨gb186, 0, none⟩ = some (.int .i64 a0_0) := (blk_cell BK186.out 0).trans rfl; have hcz5_1 : w4.cell? ⟨gb186, 1, none⟩ = some (.int .i64 a0_1) := (blk_cell BK186.out 1).trans rfl; have hcz5_2 : w4.cell? ⟨gb186, 2, none⟩ = some (.slice A0_2 l0_2.length c0_2) := (blk_cell BK186.out 2).trans rfl; have hcz5_3 : w4.cell? ⟨gb186, 3, none⟩ = some (.slice A0_3 l0_3.length c0_3) := (blk_cell BK186.out 3).trans rfl; have hfz5_0 := blk_frozen BK186.out 0; have hfz5_1 := blk_frozen BK186.out 1; have hfz5_2 := blk_frozen BK186.out 2; have hfz5_3 := blk_frozen BK186.out 3) | ((with_reducible refine gate_dst (N := 14) rfl ?_); refine Kd.R_make (Kd.int .i64) _ 3 rfl (N := 14) rfl 22 _ _ rfl (l0_2.length : Int) rfl rfl Try.underlying22 (.int .i64 0) 8 info3 rfl (by decide) (by omega) 0 (ok := fun _ => True) (okp := fun _ => True) rfl (fun _ hk => hk) trivial (of_decide_eq_true (by first | (with_reducible assumption) | assumption)) (Nat.le_trans (Nat.mul_le_mul_right _ (of_decide_eq_true (by first | (with_reducible assumption) | assumption) : (l0_2.length : Int).toNat ≤ 35184372088832)) (by omega)) (Below.refl _ _) (Nat.le_refl _) ?_; intro v188 w6 ho7 hb hg_ hnew_; clear hg_ hnew_; (first | rw [← Ny187.out] at ho7 | (simp only [Int.reduceToNat] at ho7; rw [← Ny187.out] at ho7)); have n0_ := Aside0.mk (Kd.R_lower ho7 (below_size (by repeat (first | (with_reducible first | exact HB.out | apply below_alloc | apply pw_below_drewN | apply below_drew1 | refine below_set ?_ GE186.out) | exact HB.out)))); have n1_ := Aside0.mk (blk_below (g := gb186) (o := .cells #[.int .i64 a0_0, .int .i64 a0_1, .slice A0_2 l0_2.length c0_2, .slice A0_3 l0_3.length c0_3] 25 (0, 0)) (by (with_reducible repeat (first | refine blk_drewN ?_ _ | refine blk_drew ?_ | refine blk_alloc ?_ _)); exact BK186.out) hb); have n2_ := Aside0.mk (below_step (by repeat (first | (with_reducible first | exact HB.out | apply below_alloc | apply pw_below_drewN | apply below_drew1 | refine below_set ?_ GE186.out) | exact HB.out)) hb); clear BK186; clear HB; have HO189 := n0_; have BK186 := n1_; have HB := n2_; clear n0_ n1_ n2_; clear hb ho7))
      (try (with_reducible (show Code.wp _ _ _ (Act.put _ _ _) _); go_simp))
      go_loopg [4] k (fun kq v4 w' => ∃ (x3_1 : List Int) (x4_1 : Int), v4 = .int .i64 x4_1 ∧ Aside0 (gramaryeref10_Least.l0 kq x3_1 x4_1 a0_0 a0_1 l0_2 l0_3 = some r) ∧ Aside0 (kq ≤ k) ∧ Aside0 (Kd.R (Kd.int .i64) 3 w' w.heap.size (fun _ => True) v188 x3_1) ∧ Aside0 (w'.heap[gb186]? = some (.cells #[.int .i64 a0_0, .int .i64 a0_1, (.slice A0_2 l0_2.length c0_2), (.slice A0_3 l0_3.length c0_3)] 25 (0, 0))) ∧ Aside0 (Below w.heap.size w w'))
      case atStart => exact ⟨(y187), (0), (by first | rfl | (simp; done) | (simp [*]; done)), H', ⟨Nat.le_refl _⟩, ⟨by (with_reducible repeat (first | apply Kd.R_alloc | apply Kd.R_drewN | apply Kd.R_drew)); exact HO189.out⟩, ⟨by (with_reducible repeat (first | refine blk_drewN ?_ _ | refine blk_drew ?_ | refine blk_alloc ?_ _)); exact BK186.out⟩, ⟨by repeat (first | (with_reducible first | exact HB.out | apply below_alloc | apply pw_below_drewN | apply below_drew1 | refine below_set ?_ GE186.out) | exact HB.out)⟩⟩
      case round =>
        clear H'
        try clear c1
        try clear c2
        try clear c2b0
        try clear c2b1
        try clear p2
        try clear c3
        try clear c3b0
        try clear c3b1
        try clear hcz5_0
        try clear hcz5_1
        try clear hcz5_2
        try clear hcz5_3
        try clear hfz5_0
        try clear hfz5_1
        try clear hfz5_2
        try clear hfz5_3
        obtain ⟨x3_1, x4_1, rfl, HA, HK1, HO_3, BK186, HB⟩ := hrel
        cases gk with
        | zero => exact absurd HA.out (by simp [gramaryeref10_Least.l0])
        | succ k1 =>
          have H := HA.out
          clear HA
          simp only [gramaryeref10_Least.l0] at H
          by_cases c8 : x4_1 < (x3_1.length : Int)
          · rw [if_pos c8] at H
            have c8b0 : decide (x4_1 < (x3_1.length : Int)) = true := decide_eq_true c8
            clear c8
            by_cases c9 : 0 ≤ x4_1
            · rw [if_pos c9] at H
              have c9b0 : decide (0 ≤ x4_1) = true := decide_eq_true c9
              clear c9
              obtain ⟨y190, hy190⟩ : ∃ y_ : List Int, y_ = (x3_1.set (x4_1 : Int).toNat (-1)) := ⟨_, rfl⟩
              replace H : (gramaryeref10_Least.l0 k1 y190 (wrap64 (x4_1 + 1)) a0_0 a0_1 l0_2 l0_3) = some r := by first | (rw [hy190]; with_reducible exact H) | (have H2_ := (Option.bind_some _ _).symm.trans H; rw [hy190]; with_reducible exact H2_) | (have H2_ := (Option.bind_some _ _).symm.trans H; with_reducible exact H2_) | with_reducible exact H | (rw [hy190]; exact H) | exact H
              have Ny190 := Aside0.mk hy190
              clear hy190
              have H' := Aside0.mk H
              clear H
              obtain ⟨Ao11, co11, eo11⟩ := Kd.R_slice HO_3.out
              subst eo11
              have p10 : 0 ≤ (x4_1 : Int) := of_decide_eq_true (by first | (with_reducible assumption) | assumption)
              have q10 : (x4_1 : Int) < ((x3_1.length : Int) : Int) := of_decide_eq_true (by first | (with_reducible assumption) | assumption)
              obtain ⟨go10, co10, eo10, gb10, gl10, cl10, HG10⟩ := Kd.R_form HO_3.out (by omega)
              (first | cases eo10 | (injection eo10 with ea_ en_ ec_; (first | subst ea_ | (injection ea_ with ea_; subst ea_)); subst ec_; clear en_))
              have GB10 := Aside0.mk gb10
              have GG10 := Aside0.mk HG10
              clear gb10 gl10 HG10
              obtain ⟨hx10_0, hf10_0⟩ := Kd.R_celln 0 HO_3.out (x4_1 : Int) p10 q10
              replace p10 := eq_true p10
              replace q10 := eq_true q10
              have HP12 := Kd.R_putg HO_3.out (x4_1 : Int) (-1)
              go_wp2_with (first | ((with_reducible refine gate_store (t := 3) (p := 23) rfl ?_); refine store_event (t := 3) (p := 23) (v := ?vo_w13) (w1 := (wr.setCell ⟨go10, (x4_1 : Int).toNat, none⟩ (.int .i64 (-1)))) ?hg ?ho ?hn ?hr ?_; (case ho => rfl); (case hg => rfl); (case hn => rfl); (case hr => first | (go_simp; done) | (go_simp; rfl)); intro w13 hw; have hg : wr.grownBy w13 (some go10) := (by rw [hw]; exact HP12.2); have hp_ : Kd.R (Kd.int .i64) 3 w13 w.heap.size (fun _ => True) (.slice (some ⟨go10, 0, none⟩) x3_1.length co11) y190 := (by rw [hw, Ny190.out]; exact HP12.1); clear HP12; have n0_ := Aside0.mk (hp_); have n1_ := Aside0.mk (blk_grown (g := gb186) (o := .cells #[.int .i64 a0_0, .int .i64 a0_1, .slice A0_2 l0_2.length c0_2, .slice A0_3 l0_3.length c0_3] 25 (0, 0)) (by (with_reducible repeat (first | refine blk_drewN ?_ _ | refine blk_drew ?_ | refine blk_alloc ?_ _)); exact BK186.out) hg (Kd.R_ne HO_3.out BK186.out (by decide))); have n2_ := Aside0.mk ((by rw [hw]; exact below_set (HB.out) GB10.out : Below w.heap.size w w13)); clear HO_3; clear BK186; clear HB; have HO_3 := n0_; have BK186 := n1_; have HB := n2_; clear n0_ n1_ n2_; clear hg hw hp_))
              go_roundg k1
              case measure => have := HK1.out; omega
              case rel => exact ⟨(y190), (wrap64 (x4_1 + 1)), (by first | rfl | (simp; done) | (simp [*]; done)), H', ⟨by have := HK1.out; omega⟩, ⟨by (with_reducible repeat (first | apply Kd.R_alloc | apply Kd.R_drewN | apply Kd.R_drew)); exact HO_3.out⟩, ⟨by (with_reducible repeat (first | refine blk_drewN ?_ _ | refine blk_drew ?_ | refine blk_alloc ?_ _)); exact BK186.out⟩, ⟨by repeat (first | (with_reducible first | exact HB.out | apply below_alloc | apply pw_below_drewN | apply below_drew1 | refine below_set ?_ GE186.out) | exact HB.out)⟩⟩
            · rw [if_neg c9] at H
              exact absurd H (by simp)
          · rw [if_neg c8] at H
            have c8b0 : decide (x4_1 < (x3_1.length : Int)) = false := decide_eq_false c8
            clear c8
            have H' := Aside0.mk H
            clear H
            obtain ⟨Ao14, co14, eo14⟩ := Kd.R_slice HO_3.out
            subst eo14
            go_wp2
            (try (with_reducible (show Code.wp _ _ _ (Act.put _ _ _) _); go_simp))
            go_loopg [5] k1 (fun kq v5 w' => ∃ (x3_2 : List Int) (x5_2 : Bool), v5 = .bool x5_2 ∧ Aside0 (gramaryeref10_Least.l1 kq x3_2 x5_2 a0_0 a0_1 l0_2 l0_3 = some r) ∧ Aside0 (kq ≤ k1) ∧ Aside0 (Kd.R (Kd.int .i64) 3 w' w.heap.size (fun _ => True) (.slice Ao14 x3_1.length co14) x3_2) ∧ Aside0 (w'.heap[gb186]? = some (.cells #[.int .i64 a0_0, .int .i64 a0_1, (.slice A0_2 l0_2.length c0_2), (.slice A0_3 l0_3.length c0_3)] 25 (0, 0))) ∧ Aside0 (Below w.heap.size w w'))
            case atStart => exact ⟨(x3_1), (true), (by first | rfl | (simp; done) | (simp [*]; done)), H', ⟨Nat.le_refl _⟩, ⟨by (with_reducible repeat (first | apply Kd.R_alloc | apply Kd.R_drewN | apply Kd.R_drew)); exact HO_3.out⟩, ⟨by (with_reducible repeat (first | refine blk_drewN ?_ _ | refine blk_drew ?_ | refine blk_alloc ?_ _)); exact BK186.out⟩, ⟨by repeat (first | (with_reducible first | exact HB.out | apply below_alloc | apply pw_below_drewN | apply below_drew1 | refine below_set ?_ GE186.out) | exact HB.out)⟩⟩
            case round =>
              clear H'
              try clear c1
              try clear p1
              try clear q1
              try clear hx1
              try clear hf1
              try clear c2
              try clear c2b0
              try clear c2b1
              try clear p2
              try clear c3
              try clear c3b0
              try clear c3b1
              try clear p6
              try clear c8
              try clear c8b0
              try clear c9
              try clear c9b0
              try clear p10
              try clear q10
              try clear hx10
              try clear hf10
              try clear hcz5_0
              try clear hcz5_1
              try clear hcz5_2
              try clear hcz5_3
              try clear hfz5_0
              try clear hfz5_1
              try clear hfz5_2
              try clear hfz5_3
              try clear hx10_0
              try clear p10
              try clear p2
              try clear q10
              obtain ⟨x3_2, x5_2, rfl, HA, HK2, HO_3, BK186, HB⟩ := hrel
              have hl3_2 := (Kd.R_reads' HO_3.out).1
              rw [hl3_2] at HO_3
              (try simp only [hl3_2])
              (try simp only [hl3_2] at BK186)
              cases gk with
              | zero => exact absurd HA.out (by simp [gramaryeref10_Least.l1])
              | succ k2 =>
                have H := HA.out
                clear HA
                simp only [gramaryeref10_Least.l1] at H
                by_cases c15 : x5_2 = true
                · subst c15
                  have H1 : (gramaryeref10_Least.l2 k2 x3_2 false 0 a0_0 a0_1 l0_2 l0_3) = some r := by rw [if_pos rfl] at H; exact H
                  clear H
                  have H := H1
                  clear H1
                  have H' := Aside0.mk H
                  clear H
                  go_wp2
                  (try (with_reducible (show Code.wp _ _ _ (Act.put _ _ _) _); go_simp))
                  go_loopg [5, 6] k2 (fun kq v5 v6 w' => ∃ (x3_3 : List Int) (x5_3 : Bool) (x6_3 : Int), v5 = .bool x5_3 ∧ v6 = .int .i64 x6_3 ∧ Aside0 (gramaryeref10_Least.l2 kq x3_3 x5_3 x6_3 a0_0 a0_1 l0_2 l0_3 = some r) ∧ Aside0 (kq ≤ k2) ∧ Aside0 (Kd.R (Kd.int .i64) 3 w' w.heap.size (fun _ => True) (.slice Ao14 x3_2.length co14) x3_3) ∧ Aside0 (w'.heap[gb186]? = some (.cells #[.int .i64 a0_0, .int .i64 a0_1, (.slice A0_2 l0_2.length c0_2), (.slice A0_3 l0_3.length c0_3)] 25 (0, 0))) ∧ Aside0 (Below w.heap.size w w'))
                  case atStart => exact ⟨(x3_2), (false), (0), (by first | rfl | (simp; done) | (simp [*]; done)), (by first | rfl | (simp; done) | (simp [*]; done)), H', ⟨Nat.le_refl _⟩, ⟨by (try simp only [hl3_2]); (with_reducible repeat (first | apply Kd.R_alloc | apply Kd.R_drewN | apply Kd.R_drew)); exact HO_3.out⟩, ⟨by (try simp only [hl3_2]); (with_reducible repeat (first | refine blk_drewN ?_ _ | refine blk_drew ?_ | refine blk_alloc ?_ _)); exact BK186.out⟩, ⟨by repeat (first | (with_reducible first | exact HB.out | apply below_alloc | apply pw_below_drewN | apply below_drew1 | refine below_set ?_ GE186.out) | exact HB.out)⟩⟩
                  case round =>
                    clear H'
                    try clear c1
                    try clear p1
                    try clear q1
                    try clear hx1
                    try clear hf1
                    try clear c2
                    try clear c2b0
                    try clear c2b1
                    try clear p2
                    try clear c3
                    try clear c3b0
                    try clear c3b1
                    try clear p6
                    try clear c8
                    try clear c8b0
                    try clear c9
                    try clear c9b0
                    try clear p10
                    try clear q10
                    try clear hx10
                    try clear hf10
                    try clear c15
                    try clear hcz5_0
                    try clear hcz5_1
                    try clear hcz5_2
                    try clear hcz5_3
                    try clear hfz5_0
                    try clear hfz5_1
                    try clear hfz5_2
                    try clear hfz5_3
                    try clear hx10_0
                    try clear p1
                    try clear p10
                    try clear p2
                    try clear p6
                    try clear q1
                    try clear q10
                    obtain ⟨x3_3, x5_3, x6_3, rfl, rfl, HA, HK3, HO_3, BK186, HB⟩ := hrel
                    have hl3_3 := (Kd.R_reads' HO_3.out).1
                    rw [hl3_3] at HO_3
                    (try simp only [hl3_3])
                    (try simp only [hl3_3] at BK186)
                    cases gk with
                    | zero => exact absurd HA.out (by simp [gramaryeref10_Least.l2])
                    | succ k3 =>
                      have H := HA.out
                      clear HA
                      simp only [gramaryeref10_Least.l2] at H
                      by_cases c16 : x6_3 < (l0_3.length : Int)
                      · rw [if_pos c16] at H
                        have c16b0 : decide (x6_3 < (l0_3.length : Int)) = true := decide_eq_true c16
                        (try (have c16b0z := c16b0; simp only [hl3_2, hl3_3] at c16b0z))
                        clear c16
                        have H' := Aside0.mk H
                        clear H
                        have hcz17_0 : wr.cell? ⟨gb186, 0, none⟩ = some (.int .i64 a0_0) := (blk_cell BK186.out 0).trans rfl
                        have hcz17_1 : wr.cell? ⟨gb186, 1, none⟩ = some (.int .i64 a0_1) := (blk_cell BK186.out 1).trans rfl
                        have hcz17_2 : wr.cell? ⟨gb186, 2, none⟩ = some (.slice A0_2 l0_2.length c0_2) := (blk_cell BK186.out 2).trans rfl
                        have hcz17_3 : wr.cell? ⟨gb186, 3, none⟩ = some (.slice A0_3 l0_3.length c0_3) := (blk_cell BK186.out 3).trans rfl
                        have hfz17_0 := blk_frozen BK186.out 0
                        have hfz17_1 := blk_frozen BK186.out 1
                        have hfz17_2 := blk_frozen BK186.out 2
                        have hfz17_3 := blk_frozen BK186.out 3
                        go_wp2
                        (try (with_reducible (show Code.wp _ _ _ (Act.put _ _ _) _); go_simp))
                        go_loopg [7, 8] k3 (fun kq v7 v8 w' => ∃ (x7_4 : Int) (x8_4 : Int), v7 = .int .i64 x7_4 ∧ v8 = .int .i64 x8_4 ∧ Aside0 (gramaryeref10_Least.l3 kq x3_3 x5_3 x6_3 x7_4 x8_4 a0_0 a0_1 l0_2 l0_3 = some r) ∧ Aside0 (kq ≤ k3) ∧ Aside0 (Kd.R (Kd.int .i64) 3 w' w.heap.size (fun _ => True) (.slice Ao14 x3_3.length co14) x3_3) ∧ Aside0 (w'.heap[gb186]? = some (.cells #[.int .i64 a0_0, .int .i64 a0_1, (.slice A0_2 l0_2.length c0_2), (.slice A0_3 l0_3.length c0_3)] 25 (0, 0))) ∧ Aside0 (Below w.heap.size w w'))
                        case atStart => exact ⟨(0), (0), (by first | rfl | (simp; done) | (simp [*]; done)), (by first | rfl | (simp; done) | (simp [*]; done)), H', ⟨Nat.le_refl _⟩, ⟨by (try simp only [hl3_2]); (try simp only [hl3_3]); (with_reducible repeat (first | apply Kd.R_alloc | apply Kd.R_drewN | apply Kd.R_drew)); exact HO_3.out⟩, ⟨by (try simp only [hl3_2]); (try simp only [hl3_3]); (with_reducible repeat (first | refine blk_drewN ?_ _ | refine blk_drew ?_ | refine blk_alloc ?_ _)); exact BK186.out⟩, ⟨by repeat (first | (with_reducible first | exact HB.out | apply below_alloc | apply pw_below_drewN | apply below_drew1 | refine below_set ?_ GE186.out) | exact HB.out)⟩⟩
                        case round =>
                          clear H'
                          try clear c1
                          try clear p1
                          try clear q1
                          try clear hx1
                          try clear hf1
                          try clear c2
                          try clear c2b0
                          try clear c2b1
                          try clear p2
                          try clear c3
                          try clear c3b0
                          try clear c3b1
                          try clear p6
                          try clear c8
                          try clear c8b0
                          try clear c9
                          try clear c9b0
                          try clear p10
                          try clear q10
                          try clear hx10
                          try clear hf10
                          try clear c15
                          try clear c16
                          try clear c16b0
                          try clear hcz17_0
                          try clear hcz17_1
                          try clear hcz17_2
                          try clear hcz17_3
                          try clear hcz5_0
                          try clear hcz5_1
                          try clear hcz5_2
                          try clear hcz5_3
                          try clear hfz17_0
                          try clear hfz17_1
                          try clear hfz17_2
                          try clear hfz17_3
                          try clear hfz5_0
                          try clear hfz5_1
                          try clear hfz5_2
                          try clear hfz5_3
                          try clear hx10_0
                          try clear p1
                          try clear p10
                          try clear p2
                          try clear p6
                          try clear q1
                          try clear q10
                          obtain ⟨x7_4, x8_4, rfl, rfl, HA, HK4, HO_3, BK186, HB⟩ := hrel
                          cases gk with
                          | zero => exact absurd HA.out (by simp [gramaryeref10_Least.l3])
                          | succ k4 =>
                            have H := HA.out
                            clear HA
                            simp only [gramaryeref10_Least.l3] at H
                            have HC18 := Aside0.mk H
                            clear H
                            go_upto_region 14 with (fail)
                            go_cut [44] (fun v44 wc => ∃ (kq : Nat) (x44_17 : Bool), v44 = .bool x44_17 ∧ Aside0 (gramaryeref10_Least.j4 kq x3_3 x5_3 x6_3 x7_4 x8_4 x44_17 a0_0 a0_1 l0_2 l0_3 = some r) ∧ Aside0 (kq ≤ k4) ∧ Aside0 (Kd.R (Kd.int .i64) 3 wc w.heap.size (fun _ => True) (.slice Ao14 x3_3.length co14) x3_3) ∧ Aside0 (wc.heap[gb186]? = some (.cells #[.int .i64 a0_0, .int .i64 a0_1, (.slice A0_2 l0_2.length c0_2), (.slice A0_3 l0_3.length c0_3)] 25 (0, 0))) ∧ Aside0 (Below w.heap.size w wc))
                            case first =>
                              have H := HC18.out
                              clear HC18
                              by_cases c19 : 0 ≤ x6_3
                              · rw [if_pos c19] at H
                                have c19b0 : decide (0 ≤ x6_3) = true := decide_eq_true c19
                                clear c19
                                (first | rw [c19b0] | (simp only [i64_w, i32_w]; rw [c19b0]) | skip)
                                by_cases c20 : x6_3 < (l0_3.length : Int)
                                · rw [if_pos c20] at H
                                  have c20b0 : decide (x6_3 < (l0_3.length : Int)) = true := decide_eq_true c20
                                  (try (have c20b0z := c20b0; simp only [hl3_2, hl3_3] at c20b0z))
                                  clear c20
                                  by_cases c21 : x8_4 < (((rd_T51 l0_3 x6_3).f1).length : Int)
                                  · rw [if_pos c21] at H
                                    have c21b0 : decide (x8_4 < (((rd_T51 l0_3 x6_3).f1).length : Int)) = true := decide_eq_true c21
                                    (try (have c21b0z := c21b0; simp only [hl3_2, hl3_3] at c21b0z))
                                    clear c21
                                    have H' := Aside0.mk H
                                    clear H
                                    have hcz22_0 : wr.cell? ⟨gb186, 0, none⟩ = some (.int .i64 a0_0) := (blk_cell BK186.out 0).trans rfl
                                    have hcz22_1 : wr.cell? ⟨gb186, 1, none⟩ = some (.int .i64 a0_1) := (blk_cell BK186.out 1).trans rfl
                                    have hcz22_2 : wr.cell? ⟨gb186, 2, none⟩ = some (.slice A0_2 l0_2.length c0_2) := (blk_cell BK186.out 2).trans rfl
                                    have hcz22_3 : wr.cell? ⟨gb186, 3, none⟩ = some (.slice A0_3 l0_3.length c0_3) := (blk_cell BK186.out 3).trans rfl
                                    have hfz22_0 := blk_frozen BK186.out 0
                                    have hfz22_1 := blk_frozen BK186.out 1
                                    have hfz22_2 := blk_frozen BK186.out 2
                                    have hfz22_3 := blk_frozen BK186.out 3
                                    have p191 : 0 ≤ (x6_3 : Int) := of_decide_eq_true (by first | (with_reducible assumption) | assumption)
                                    have q191 : x6_3 < (l0_3.length : Int) := of_decide_eq_true (by first | (with_reducible assumption) | assumption)
                                    obtain ⟨ad191, A191_1, c191_1, e191, hx191_0, hx191_1, hl191_1, hi191_1⟩ := at_T51 HR0_3.out x6_3 p191 q191
                                    cases e191
                                    have Nhx191_0 := Aside0.mk hx191_0; replace hx191_0 := (HB.out.cell (World.block_lt_of_cell? w _ hx191_0)).trans hx191_0
                                    have Nhx191_1 := Aside0.mk hx191_1; replace hx191_1 := (HB.out.cell (World.block_lt_of_cell? w _ hx191_1)).trans hx191_1
                                    have HR191_1 := Aside0.mk hi191_1
                                    have HC191_1 := Aside0.mk hl191_1
                                    clear hi191_1 hl191_1
                                    replace p191 := eq_true p191
                                    replace q191 := eq_true q191
                                    go_wp2
                                    go_meet
                                    case rel => exact ⟨_, (decide (x7_4 ≥ 0)), (by first | rfl | (simp; done) | (simp [*]; done)), H', ⟨by have := HK1.out; have := HK2.out; have := HK3.out; have := HK4.out; first | omega | exact Nat.le_refl _⟩, ⟨by (try simp only [hl3_2]); (try simp only [hl3_3]); (with_reducible repeat (first | apply Kd.R_alloc | apply Kd.R_drewN | apply Kd.R_drew)); exact HO_3.out⟩, ⟨by (try simp only [hl3_2]); (try simp only [hl3_3]); (with_reducible repeat (first | refine blk_drewN ?_ _ | refine blk_drew ?_ | refine blk_alloc ?_ _)); exact BK186.out⟩, ⟨by repeat (first | (with_reducible first | exact HB.out | apply below_alloc | apply pw_below_drewN | apply below_drew1 | refine below_set ?_ GE186.out) | exact HB.out)⟩⟩
                                  · rw [if_neg c21] at H
                                    have c21b0 : decide (x8_4 < (((rd_T51 l0_3 x6_3).f1).length : Int)) = false := decide_eq_false c21
                                    (try (have c21b0z := c21b0; simp only [hl3_2, hl3_3] at c21b0z))
                                    clear c21
                                    have H' := Aside0.mk H
                                    clear H
                                    have hcz23_0 : wr.cell? ⟨gb186, 0, none⟩ = some (.int .i64 a0_0) := (blk_cell BK186.out 0).trans rfl
                                    have hcz23_1 : wr.cell? ⟨gb186, 1, none⟩ = some (.int .i64 a0_1) := (blk_cell BK186.out 1).trans rfl
                                    have hcz23_2 : wr.cell? ⟨gb186, 2, none⟩ = some (.slice A0_2 l0_2.length c0_2) := (blk_cell BK186.out 2).trans rfl
                                    have hcz23_3 : wr.cell? ⟨gb186, 3, none⟩ = some (.slice A0_3 l0_3.length c0_3) := (blk_cell BK186.out 3).trans rfl
                                    have hfz23_0 := blk_frozen BK186.out 0
                                    have hfz23_1 := blk_frozen BK186.out 1
                                    have hfz23_2 := blk_frozen BK186.out 2
                                    have hfz23_3 := blk_frozen BK186.out 3
                                    have p191 : 0 ≤ (x6_3 : Int) := of_decide_eq_true (by first | (with_reducible assumption) | assumption)
                                    have q191 : x6_3 < (l0_3.length : Int) := of_decide_eq_true (by first | (with_reducible assumption) | assumption)
                                    obtain ⟨ad191, A191_1, c191_1, e191, hx191_0, hx191_1, hl191_1, hi191_1⟩ := at_T51 HR0_3.out x6_3 p191 q191
                                    cases e191
                                    have Nhx191_0 := Aside0.mk hx191_0; replace hx191_0 := (HB.out.cell (World.block_lt_of_cell? w _ hx191_0)).trans hx191_0
                                    have Nhx191_1 := Aside0.mk hx191_1; replace hx191_1 := (HB.out.cell (World.block_lt_of_cell? w _ hx191_1)).trans hx191_1
                                    have HR191_1 := Aside0.mk hi191_1
                                    have HC191_1 := Aside0.mk hl191_1
                                    clear hi191_1 hl191_1
                                    replace p191 := eq_true p191
                                    replace q191 := eq_true q191
                                    go_wp2
                                    go_meet
                                    case rel => exact ⟨_, (false), (by first | rfl | (simp; done) | (simp [*]; done)), H', ⟨by have := HK1.out; have := HK2.out; have := HK3.out; have := HK4.out; first | omega | exact Nat.le_refl _⟩, ⟨by (try simp only [hl3_2]); (try simp only [hl3_3]); (with_reducible repeat (first | apply Kd.R_alloc | apply Kd.R_drewN | apply Kd.R_drew)); exact HO_3.out⟩, ⟨by (try simp only [hl3_2]); (try simp only [hl3_3]); (with_reducible repeat (first | refine blk_drewN ?_ _ | refine blk_drew ?_ | refine blk_alloc ?_ _)); exact BK186.out⟩, ⟨by repeat (first | (with_reducible first | exact HB.out | apply below_alloc | apply pw_below_drewN | apply below_drew1 | refine below_set ?_ GE186.out) | exact HB.out)⟩⟩
                                · rw [if_neg c20] at H
                                  exact absurd H (by simp)
                              · rw [if_neg c19] at H
                                exact absurd H (by simp)
                            case rest =>
                              clear HC18
                              try clear c1
                              try clear p1
                              try clear q1
                              try clear hx1
                              try clear hf1
                              try clear c2
                              try clear c2b0
                              try clear c2b1
                              try clear p2
                              try clear c3
                              try clear c3b0
                              try clear c3b1
                              try clear p6
                              try clear c8
                              try clear c8b0
                              try clear c9
                              try clear c9b0
                              try clear p10
                              try clear q10
                              try clear hx10
                              try clear hf10
                              try clear c15
                              try clear c16
                              try clear c16b0
                              try clear c19
                              try clear c19b0
                              try clear p19
                              try clear q19
                              try clear hx19
                              try clear c20
                              try clear c20b0
                              try clear c21
                              try clear c21b0
                              try clear hcz17_0
                              try clear hcz17_1
                              try clear hcz17_2
                              try clear hcz17_3
                              try clear hcz22_0
                              try clear hcz22_1
                              try clear hcz22_2
                              try clear hcz22_3
                              try clear hcz23_0
                              try clear hcz23_1
                              try clear hcz23_2
                              try clear hcz23_3
                              try clear hcz5_0
                              try clear hcz5_1
                              try clear hcz5_2
                              try clear hcz5_3
                              try clear hfz17_0
                              try clear hfz17_1
                              try clear hfz17_2
                              try clear hfz17_3
                              try clear hfz22_0
                              try clear hfz22_1
                              try clear hfz22_2
                              try clear hfz22_3
                              try clear hfz23_0
                              try clear hfz23_1
                              try clear hfz23_2
                              try clear hfz23_3
                              try clear hfz5_0
                              try clear hfz5_1
                              try clear hfz5_2
                              try clear hfz5_3
                              try clear hx10_0
                              try clear hx191_0
                              try clear hx191_1
                              try clear p1
                              try clear p10
                              try clear p191
                              try clear p2
                              try clear p6
                              try clear q1
                              try clear q10
                              try clear q191
                              obtain ⟨kq, x44_17, rfl, HA, HJ17, HO_3, BK186, HB⟩ := hcut
                              cases kq with
                              | zero => exact absurd HA.out (by simp [gramaryeref10_Least.j4])
                              | succ kj17 =>
                                have H := HA.out
                                clear HA
                                simp only [gramaryeref10_Least.j4] at H
                                by_cases c24 : x44_17 = true
                                · subst c24
                                  have H1 : (if 0 ≤ x6_3 then (if x6_3 < (l0_3.length : Int) then (if 0 ≤ x8_4 then (if x8_4 < (((rd_T51 l0_3 x6_3).f1).length : Int) then (if (rd_T59 ((rd_T51 l0_3 x6_3).f1) x8_4).f0 = true then (gramaryeref10_Least.l3 kj17 x3_3 x5_3 x6_3 (wrap64 (x7_4 + 1)) (wrap64 (x8_4 + 1)) a0_0 a0_1 l0_2 l0_3) else (if 0 ≤ ((rd_T59 ((rd_T51 l0_3 x6_3).f1) x8_4).f1) then (if ((rd_T59 ((rd_T51 l0_3 x6_3).f1) x8_4).f1) < (x3_3.length : Int) then (if (rd x3_3 ((rd_T59 ((rd_T51 l0_3 x6_3).f1) x8_4).f1)) < 0 then (gramaryeref10_Least.l3 kj17 x3_3 x5_3 x6_3 (-1) (wrap64 (x8_4 + 1)) a0_0 a0_1 l0_2 l0_3) else (gramaryeref10_Least.l3 kj17 x3_3 x5_3 x6_3 (wrap64 (x7_4 + (rd x3_3 ((rd_T59 ((rd_T51 l0_3 x6_3).f1) x8_4).f1)))) (wrap64 (x8_4 + 1)) a0_0 a0_1 l0_2 l0_3)) else (none)) else (none))) else (none)) else (none)) else (none)) else (none)) = some r := by rw [if_pos rfl] at H; exact H
                                  clear H
                                  have H := H1
                                  clear H1
                                  by_cases c25 : 0 ≤ x6_3
                                  · rw [if_pos c25] at H
                                    have c25b0 : decide (0 ≤ x6_3) = true := decide_eq_true c25
                                    clear c25
                                    by_cases c26 : x6_3 < (l0_3.length : Int)
                                    · rw [if_pos c26] at H
                                      have c26b0 : decide (x6_3 < (l0_3.length : Int)) = true := decide_eq_true c26
                                      (try (have c26b0z := c26b0; simp only [hl3_2, hl3_3] at c26b0z))
                                      clear c26
                                      by_cases c27 : 0 ≤ x8_4
                                      · rw [if_pos c27] at H
                                        have c27b0 : decide (0 ≤ x8_4) = true := decide_eq_true c27
                                        clear c27
                                        by_cases c28 : x8_4 < (((rd_T51 l0_3 x6_3).f1).length : Int)
                                        · rw [if_pos c28] at H
                                          have c28b0 : decide (x8_4 < (((rd_T51 l0_3 x6_3).f1).length : Int)) = true := decide_eq_true c28
                                          (try (have c28b0z := c28b0; simp only [hl3_2, hl3_3] at c28b0z))
                                          clear c28
                                          obtain ⟨bq29, hbq29⟩ : ∃ b_ : Bool, b_ = ((rd_T59 ((rd_T51 l0_3 x6_3).f1) x8_4).f0) := ⟨_, rfl⟩
                                          replace H : (if bq29 = true then (gramaryeref10_Least.l3 kj17 x3_3 x5_3 x6_3 (wrap64 (x7_4 + 1)) (wrap64 (x8_4 + 1)) a0_0 a0_1 l0_2 l0_3) else (if 0 ≤ ((rd_T59 ((rd_T51 l0_3 x6_3).f1) x8_4).f1) then (if ((rd_T59 ((rd_T51 l0_3 x6_3).f1) x8_4).f1) < (x3_3.length : Int) then (if (rd x3_3 ((rd_T59 ((rd_T51 l0_3 x6_3).f1) x8_4).f1)) < 0 then (gramaryeref10_Least.l3 kj17 x3_3 x5_3 x6_3 (-1) (wrap64 (x8_4 + 1)) a0_0 a0_1 l0_2 l0_3) else (gramaryeref10_Least.l3 kj17 x3_3 x5_3 x6_3 (wrap64 (x7_4 + (rd x3_3 ((rd_T59 ((rd_T51 l0_3 x6_3).f1) x8_4).f1)))) (wrap64 (x8_4 + 1)) a0_0 a0_1 l0_2 l0_3)) else (none)) else (none))) = some r := by rw [← hbq29] at H; exact H
                                          have Nbq29 := Aside0.mk hbq29
                                          clear hbq29
                                          by_cases c30 : bq29 = true
                                          · subst c30
                                            have H1 : (gramaryeref10_Least.l3 kj17 x3_3 x5_3 x6_3 (wrap64 (x7_4 + 1)) (wrap64 (x8_4 + 1)) a0_0 a0_1 l0_2 l0_3) = some r := by rw [if_pos rfl] at H; exact H
                                            clear H
                                            have H := H1
                                            clear H1
                                            have H' := Aside0.mk H
                                            clear H
                                            have hcz31_0 : wc.cell? ⟨gb186, 0, none⟩ = some (.int .i64 a0_0) := (blk_cell BK186.out 0).trans rfl
                                            have hcz31_1 : wc.cell? ⟨gb186, 1, none⟩ = some (.int .i64 a0_1) := (blk_cell BK186.out 1).trans rfl
                                            have hcz31_2 : wc.cell? ⟨gb186, 2, none⟩ = some (.slice A0_2 l0_2.length c0_2) := (blk_cell BK186.out 2).trans rfl
                                            have hcz31_3 : wc.cell? ⟨gb186, 3, none⟩ = some (.slice A0_3 l0_3.length c0_3) := (blk_cell BK186.out 3).trans rfl
                                            have hfz31_0 := blk_frozen BK186.out 0
                                            have hfz31_1 := blk_frozen BK186.out 1
                                            have hfz31_2 := blk_frozen BK186.out 2
                                            have hfz31_3 := blk_frozen BK186.out 3
                                            have p197 : 0 ≤ (x6_3 : Int) := of_decide_eq_true (by first | (with_reducible assumption) | assumption)
                                            have q197 : x6_3 < (l0_3.length : Int) := of_decide_eq_true (by first | (with_reducible assumption) | assumption)
                                            obtain ⟨ad197, A197_1, c197_1, e197, hx197_0, hx197_1, hl197_1, hi197_1⟩ := at_T51 HR0_3.out x6_3 p197 q197
                                            cases e197
                                            have Nhx197_0 := Aside0.mk hx197_0; replace hx197_0 := (HB.out.cell (World.block_lt_of_cell? w _ hx197_0)).trans hx197_0
                                            have Nhx197_1 := Aside0.mk hx197_1; replace hx197_1 := (HB.out.cell (World.block_lt_of_cell? w _ hx197_1)).trans hx197_1
                                            have HR197_1 := Aside0.mk hi197_1
                                            have HC197_1 := Aside0.mk hl197_1
                                            clear hi197_1 hl197_1
                                            replace p197 := eq_true p197
                                            replace q197 := eq_true q197
                                            have p198 : 0 ≤ (x8_4 : Int) := of_decide_eq_true (by first | (with_reducible assumption) | assumption)
                                            have q198 : x8_4 < (((rd_T51 l0_3 x6_3).f1).length : Int) := of_decide_eq_true (by first | (with_reducible assumption) | assumption)
                                            obtain ⟨ad198, e198, hx198_0, hx198_1⟩ := at_T59 HR197_1.out x8_4 p198 q198
                                            (try rw [← Nbq29.out] at hx198_0)
                                            cases e198
                                            have Nhx198_0 := Aside0.mk hx198_0; replace hx198_0 := (HB.out.cell (World.block_lt_of_cell? w _ hx198_0)).trans hx198_0
                                            have Nhx198_1 := Aside0.mk hx198_1; replace hx198_1 := (HB.out.cell (World.block_lt_of_cell? w _ hx198_1)).trans hx198_1
                                            replace p198 := eq_true p198
                                            replace q198 := eq_true q198
                                            go_wp2_with (first | ((with_reducible refine gate_dst (N := 9) rfl ?_); refine box_event ?hg (N := 9) ?hd (cs := #[.bool false, .int .i64 0]) (t := 59) ?hr ?_; (case hd => rfl); (case hg => rfl); (case hr => first | (go_simp; done) | (go_simp; rfl)); intro gb199 hg w32 hbox hb; have n0_ := Aside0.mk (Kd.R_below (by (with_reducible repeat (first | apply Kd.R_alloc | apply Kd.R_drewN | apply Kd.R_drew)); exact HO_3.out) hb); have n1_ := Aside0.mk (blk_below (g := gb186) (o := .cells #[.int .i64 a0_0, .int .i64 a0_1, .slice A0_2 l0_2.length c0_2, .slice (some ad197) l0_3.length c0_3] 25 (0, 0)) (by (with_reducible repeat (first | refine blk_drewN ?_ _ | refine blk_drew ?_ | refine blk_alloc ?_ _)); exact BK186.out) hb); have n2_ := Aside0.mk (below_step (by repeat (first | (with_reducible first | exact HB.out | apply below_alloc | apply pw_below_drewN | apply below_drew1 | refine below_set ?_ GE186.out) | exact HB.out)) hb); have n3_ := Aside0.mk (hbox); have n4_ := Aside0.mk ((by rw [hg]; exact (below_size (by repeat (first | (with_reducible first | exact HB.out | apply below_alloc | apply pw_below_drewN | apply below_drew1 | refine below_set ?_ GE186.out) | exact HB.out))) : w.heap.size ≤ gb199)); have n5_ := Aside0.mk ((by rw [hg]; exact (below_size (by repeat (first | (with_reducible first | exact HB.out | apply below_alloc | apply pw_below_drewN | apply below_drew1 | refine below_set ?_ GE186.out) | exact HB.out))) : w.heap.size ≤ gb199)); have n6_ := Aside0.mk ((by rw [hg]; exact Nat.ne_of_lt (blk_lt (g := gb186) (o := .cells #[.int .i64 a0_0, .int .i64 a0_1, .slice A0_2 l0_2.length c0_2, .slice (some ad197) l0_3.length c0_3] 25 (0, 0)) (by (with_reducible repeat (first | refine blk_drewN ?_ _ | refine blk_drew ?_ | refine blk_alloc ?_ _)); exact BK186.out)) : gb186 ≠ gb199)); have n7_ := Aside0.mk ((by rw [hg]; exact Nat.ne_of_gt (blk_lt (g := gb186) (o := .cells #[.int .i64 a0_0, .int .i64 a0_1, .slice A0_2 l0_2.length c0_2, .slice (some ad197) l0_3.length c0_3] 25 (0, 0)) (by (with_reducible repeat (first | refine blk_drewN ?_ _ | refine blk_drew ?_ | refine blk_alloc ?_ _)); exact BK186.out)) : gb199 ≠ gb186)); clear HO_3; clear BK186; clear HB; have HO_3 := n0_; have BK186 := n1_; have HB := n2_; have BK199 := n3_; have GW199 := n4_; have GE199 := n5_; have NB186_199 := n6_; have NB199_186 := n7_; clear n0_ n1_ n2_ n3_ n4_ n5_ n6_ n7_; clear hb hbox hg; have hnb33 := NB199_186.out; have hnc33 := NB186_199.out; have hcz34_0 : w32.cell? ⟨gb199, 0, none⟩ = some (.bool false) := (blk_cell BK199.out 0).trans rfl; have hcz34_1 : w32.cell? ⟨gb199, 1, none⟩ = some (.int .i64 0) := (blk_cell BK199.out 1).trans rfl; have hfz34_0 := blk_frozen BK199.out 0; have hfz34_1 := blk_frozen BK199.out 1))
                                            go_roundg kj17
                                            case measure => have := HK1.out; have := HK2.out; have := HK3.out; have := HK4.out; have := HJ17.out; omega
                                            case rel => exact ⟨(wrap64 (x7_4 + 1)), (wrap64 (x8_4 + 1)), (by first | rfl | (simp; done) | (simp [*]; done)), (by first | rfl | (simp; done) | (simp [*]; done)), H', ⟨by have := HK1.out; have := HK2.out; have := HK3.out; have := HK4.out; have := HJ17.out; omega⟩, ⟨by (try simp only [hl3_2]); (try simp only [hl3_3]); (with_reducible repeat (first | apply Kd.R_alloc | apply Kd.R_drewN | apply Kd.R_drew)); exact Kd.R_mono (Kd.R_far (p := ⟨gb199, 1, none⟩) (Kd.R_far (p := ⟨gb199, 0, none⟩) (Kd.R_types HO_3.out BK199.out (by decide)) (fun _ hk => hk.2) (.bool true)) (fun _ hk => hk.2) (.int .i64 ((rd_T59 ((rd_T51 l0_3 x6_3).f1) x8_4).f1))) (fun _ hk => trivial)⟩, ⟨by (try simp only [hl3_2]); (try simp only [hl3_3]); (with_reducible repeat (first | refine blk_drewN ?_ _ | refine blk_drew ?_ | refine blk_alloc ?_ _)); refine blk_far ?_ NB186_199.out _; (with_reducible repeat (first | refine blk_drewN ?_ _ | refine blk_drew ?_ | refine blk_alloc ?_ _)); refine blk_far ?_ NB186_199.out _; (with_reducible repeat (first | refine blk_drewN ?_ _ | refine blk_drew ?_ | refine blk_alloc ?_ _)); exact BK186.out⟩, ⟨by repeat (first | (with_reducible first | exact HB.out | apply below_alloc | apply pw_below_drewN | apply below_drew1 | refine below_set ?_ GE186.out | refine below_set ?_ GE199.out) | exact HB.out)⟩⟩
                                          · replace c30 := Bool.eq_false_iff.mpr c30
                                            subst c30
                                            have H1 : (if 0 ≤ ((rd_T59 ((rd_T51 l0_3 x6_3).f1) x8_4).f1) then (if ((rd_T59 ((rd_T51 l0_3 x6_3).f1) x8_4).f1) < (x3_3.length : Int) then (if (rd x3_3 ((rd_T59 ((rd_T51 l0_3 x6_3).f1) x8_4).f1)) < 0 then (gramaryeref10_Least.l3 kj17 x3_3 x5_3 x6_3 (-1) (wrap64 (x8_4 + 1)) a0_0 a0_1 l0_2 l0_3) else (gramaryeref10_Least.l3 kj17 x3_3 x5_3 x6_3 (wrap64 (x7_4 + (rd x3_3 ((rd_T59 ((rd_T51 l0_3 x6_3).f1) x8_4).f1)))) (wrap64 (x8_4 + 1)) a0_0 a0_1 l0_2 l0_3)) else (none)) else (none)) = some r := by rw [if_neg (show ¬ (false = true) by decide)] at H; exact H
                                            clear H
                                            have H := H1
                                            clear H1
                                            by_cases c35 : 0 ≤ ((rd_T59 ((rd_T51 l0_3 x6_3).f1) x8_4).f1)
                                            · rw [if_pos c35] at H
                                              have c35b0 : decide (0 ≤ ((rd_T59 ((rd_T51 l0_3 x6_3).f1) x8_4).f1)) = true := decide_eq_true c35
                                              clear c35
                                              by_cases c36 : ((rd_T59 ((rd_T51 l0_3 x6_3).f1) x8_4).f1) < (x3_3.length : Int)
                                              · rw [if_pos c36] at H
                                                have c36b0 : decide (((rd_T59 ((rd_T51 l0_3 x6_3).f1) x8_4).f1) < (x3_3.length : Int)) = true := decide_eq_true c36
                                                (try (have c36b0z := c36b0; simp only [hl3_2, hl3_3] at c36b0z))
                                                clear c36
                                                by_cases c37 : (rd x3_3 ((rd_T59 ((rd_T51 l0_3 x6_3).f1) x8_4).f1)) < 0
                                                · rw [if_pos c37] at H
                                                  have c37b0 : decide ((rd x3_3 ((rd_T59 ((rd_T51 l0_3 x6_3).f1) x8_4).f1)) < 0) = true := decide_eq_true c37
                                                  clear c37
                                                  have H' := Aside0.mk H
                                                  clear H
                                                  have hcz38_0 : wc.cell? ⟨gb186, 0, none⟩ = some (.int .i64 a0_0) := (blk_cell BK186.out 0).trans rfl
                                                  have hcz38_1 : wc.cell? ⟨gb186, 1, none⟩ = some (.int .i64 a0_1) := (blk_cell BK186.out 1).trans rfl
                                                  have hcz38_2 : wc.cell? ⟨gb186, 2, none⟩ = some (.slice A0_2 l0_2.length c0_2) := (blk_cell BK186.out 2).trans rfl
                                                  have hcz38_3 : wc.cell? ⟨gb186, 3, none⟩ = some (.slice A0_3 l0_3.length c0_3) := (blk_cell BK186.out 3).trans rfl
                                                  have hfz38_0 := blk_frozen BK186.out 0
                                                  have hfz38_1 := blk_frozen BK186.out 1
                                                  have hfz38_2 := blk_frozen BK186.out 2
                                                  have hfz38_3 := blk_frozen BK186.out 3
                                                  have p197 : 0 ≤ (x6_3 : Int) := of_decide_eq_true (by first | (with_reducible assumption) | assumption)
                                                  have q197 : x6_3 < (l0_3.length : Int) := of_decide_eq_true (by first | (with_reducible assumption) | assumption)
                                                  obtain ⟨ad197, A197_1, c197_1, e197, hx197_0, hx197_1, hl197_1, hi197_1⟩ := at_T51 HR0_3.out x6_3 p197 q197
                                                  cases e197
                                                  have Nhx197_0 := Aside0.mk hx197_0; replace hx197_0 := (HB.out.cell (World.block_lt_of_cell? w _ hx197_0)).trans hx197_0
                                                  have Nhx197_1 := Aside0.mk hx197_1; replace hx197_1 := (HB.out.cell (World.block_lt_of_cell? w _ hx197_1)).trans hx197_1
                                                  have HR197_1 := Aside0.mk hi197_1
                                                  have HC197_1 := Aside0.mk hl197_1
                                                  clear hi197_1 hl197_1
                                                  replace p197 := eq_true p197
                                                  replace q197 := eq_true q197
                                                  have p198 : 0 ≤ (x8_4 : Int) := of_decide_eq_true (by first | (with_reducible assumption) | assumption)
                                                  have q198 : x8_4 < (((rd_T51 l0_3 x6_3).f1).length : Int) := of_decide_eq_true (by first | (with_reducible assumption) | assumption)
                                                  obtain ⟨ad198, e198, hx198_0, hx198_1⟩ := at_T59 HR197_1.out x8_4 p198 q198
                                                  (try rw [← Nbq29.out] at hx198_0)
                                                  cases e198
                                                  have Nhx198_0 := Aside0.mk hx198_0; replace hx198_0 := (HB.out.cell (World.block_lt_of_cell? w _ hx198_0)).trans hx198_0
                                                  have Nhx198_1 := Aside0.mk hx198_1; replace hx198_1 := (HB.out.cell (World.block_lt_of_cell? w _ hx198_1)).trans hx198_1
                                                  replace p198 := eq_true p198
                                                  replace q198 := eq_true q198
                                                  go_wp2_with (first | ((with_reducible refine gate_dst (N := 9) rfl ?_); refine box_event ?hg (N := 9) ?hd (cs := #[.bool false, .int .i64 0]) (t := 59) ?hr ?_; (case hd => rfl); (case hg => rfl); (case hr => first | (go_simp; done) | (go_simp; rfl)); intro gb199 hg w39 hbox hb; have n0_ := Aside0.mk (Kd.R_below (by (with_reducible repeat (first | apply Kd.R_alloc | apply Kd.R_drewN | apply Kd.R_drew)); exact HO_3.out) hb); have n1_ := Aside0.mk (blk_below (g := gb186) (o := .cells #[.int .i64 a0_0, .int .i64 a0_1, .slice A0_2 l0_2.length c0_2, .slice (some ad197) l0_3.length c0_3] 25 (0, 0)) (by (with_reducible repeat (first | refine blk_drewN ?_ _ | refine blk_drew ?_ | refine blk_alloc ?_ _)); exact BK186.out) hb); have n2_ := Aside0.mk (below_step (by repeat (first | (with_reducible first | exact HB.out | apply below_alloc | apply pw_below_drewN | apply below_drew1 | refine below_set ?_ GE186.out) | exact HB.out)) hb); have n3_ := Aside0.mk (hbox); have n4_ := Aside0.mk ((by rw [hg]; exact (below_size (by repeat (first | (with_reducible first | exact HB.out | apply below_alloc | apply pw_below_drewN | apply below_drew1 | refine below_set ?_ GE186.out) | exact HB.out))) : w.heap.size ≤ gb199)); have n5_ := Aside0.mk ((by rw [hg]; exact (below_size (by repeat (first | (with_reducible first | exact HB.out | apply below_alloc | apply pw_below_drewN | apply below_drew1 | refine below_set ?_ GE186.out) | exact HB.out))) : w.heap.size ≤ gb199)); have n6_ := Aside0.mk ((by rw [hg]; exact Nat.ne_of_lt (blk_lt (g := gb186) (o := .cells #[.int .i64 a0_0, .int .i64 a0_1, .slice A0_2 l0_2.length c0_2, .slice (some ad197) l0_3.length c0_3] 25 (0, 0)) (by (with_reducible repeat (first | refine blk_drewN ?_ _ | refine blk_drew ?_ | refine blk_alloc ?_ _)); exact BK186.out)) : gb186 ≠ gb199)); have n7_ := Aside0.mk ((by rw [hg]; exact Nat.ne_of_gt (blk_lt (g := gb186) (o := .cells #[.int .i64 a0_0, .int .i64 a0_1, .slice A0_2 l0_2.length c0_2, .slice (some ad197) l0_3.length c0_3] 25 (0, 0)) (by (with_reducible repeat (first | refine blk_drewN ?_ _ | refine blk_drew ?_ | refine blk_alloc ?_ _)); exact BK186.out)) : gb199 ≠ gb186)); clear HO_3; clear BK186; clear HB; have HO_3 := n0_; have BK186 := n1_; have HB := n2_; have BK199 := n3_; have GW199 := n4_; have GE199 := n5_; have NB186_199 := n6_; have NB199_186 := n7_; clear n0_ n1_ n2_ n3_ n4_ n5_ n6_ n7_; clear hb hbox hg; have hnb40 := NB199_186.out; have hnc40 := NB186_199.out; have hcz41_0 : w39.cell? ⟨gb199, 0, none⟩ = some (.bool false) := (blk_cell BK199.out 0).trans rfl; have hcz41_1 : w39.cell? ⟨gb199, 1, none⟩ = some (.int .i64 0) := (blk_cell BK199.out 1).trans rfl; have hfz41_0 := blk_frozen BK199.out 0; have hfz41_1 := blk_frozen BK199.out 1; have p200 : 0 ≤ (((rd_T59 ((rd_T51 l0_3 x6_3).f1) x8_4).f1) : Int) := of_decide_eq_true (by first | (with_reducible assumption) | assumption); have q200 : ((rd_T59 ((rd_T51 l0_3 x6_3).f1) x8_4).f1) < (x3_3.length : Int) := of_decide_eq_true (by first | (with_reducible assumption) | assumption); obtain ⟨ad200, e200, hx200_0⟩ := Kd.at_int (Kd.R_reads' HO_3.out).2.2 ((rd_T59 ((rd_T51 l0_3 x6_3).f1) x8_4).f1) p200 q200; cases e200; have hn200_0 : ad200.block ≠ gb199 := Kd.own_blk (Kd.R_ne HO_3.out BK199.out (by decide)); have hn200_1 : ad200.block ≠ gb199 := Kd.own_blk (Kd.R_ne HO_3.out BK199.out (by decide)); replace hx200_0 := (cell_far (p := ⟨gb199, 0, none⟩) (by first | (rw [add_block]; exact hn200_0) | (show (Addr.add _ _).block ≠ _; rw [add_block]; exact hn200_0) | exact hn200_0) (.bool false)).trans hx200_0; replace hx200_0 := (cell_far (p := ⟨gb199, 1, none⟩) (by first | (rw [add_block]; exact hn200_1) | (show (Addr.add _ _).block ≠ _; rw [add_block]; exact hn200_1) | exact hn200_1) (.int .i64 ((rd_T59 ((rd_T51 l0_3 x6_3).f1) x8_4).f1))).trans hx200_0; clear hn200_0; clear hn200_1; replace p200 := eq_true p200; replace q200 := eq_true q200))
                                                  go_roundg kj17
                                                  case measure => have := HK1.out; have := HK2.out; have := HK3.out; have := HK4.out; have := HJ17.out; omega
                                                  case rel => exact ⟨((-1)), (wrap64 (x8_4 + 1)), (by first | rfl | (simp; done) | (simp [*]; done)), (by first | rfl | (simp; done) | (simp [*]; done)), H', ⟨by have := HK1.out; have := HK2.out; have := HK3.out; have := HK4.out; have := HJ17.out; omega⟩, ⟨by (try simp only [hl3_2]); (try simp only [hl3_3]); (with_reducible repeat (first | apply Kd.R_alloc | apply Kd.R_drewN | apply Kd.R_drew)); exact Kd.R_mono (Kd.R_far (p := ⟨gb199, 1, none⟩) (Kd.R_far (p := ⟨gb199, 0, none⟩) (Kd.R_types HO_3.out BK199.out (by decide)) (fun _ hk => hk.2) (.bool false)) (fun _ hk => hk.2) (.int .i64 ((rd_T59 ((rd_T51 l0_3 x6_3).f1) x8_4).f1))) (fun _ hk => trivial)⟩, ⟨by (try simp only [hl3_2]); (try simp only [hl3_3]); (with_reducible repeat (first | refine blk_drewN ?_ _ | refine blk_drew ?_ | refine blk_alloc ?_ _)); refine blk_far ?_ NB186_199.out _; (with_reducible repeat (first | refine blk_drewN ?_ _ | refine blk_drew ?_ | refine blk_alloc ?_ _)); refine blk_far ?_ NB186_199.out _; (with_reducible repeat (first | refine blk_drewN ?_ _ | refine blk_drew ?_ | refine blk_alloc ?_ _)); exact BK186.out⟩, ⟨by repeat (first | (with_reducible first | exact HB.out | apply below_alloc | apply pw_below_drewN | apply below_drew1 | refine below_set ?_ GE186.out | refine below_set ?_ GE199.out) | exact HB.out)⟩⟩
                                                · rw [if_neg c37] at H
                                                  have c37b0 : decide ((rd x3_3 ((rd_T59 ((rd_T51 l0_3 x6_3).f1) x8_4).f1)) < 0) = false := decide_eq_false c37
                                                  clear c37
                                                  have H' := Aside0.mk H
                                                  clear H
                                                  have hcz42_0 : wc.cell? ⟨gb186, 0, none⟩ = some (.int .i64 a0_0) := (blk_cell BK186.out 0).trans rfl
                                                  have hcz42_1 : wc.cell? ⟨gb186, 1, none⟩ = some (.int .i64 a0_1) := (blk_cell BK186.out 1).trans rfl
                                                  have hcz42_2 : wc.cell? ⟨gb186, 2, none⟩ = some (.slice A0_2 l0_2.length c0_2) := (blk_cell BK186.out 2).trans rfl
                                                  have hcz42_3 : wc.cell? ⟨gb186, 3, none⟩ = some (.slice A0_3 l0_3.length c0_3) := (blk_cell BK186.out 3).trans rfl
                                                  have hfz42_0 := blk_frozen BK186.out 0
                                                  have hfz42_1 := blk_frozen BK186.out 1
                                                  have hfz42_2 := blk_frozen BK186.out 2
                                                  have hfz42_3 := blk_frozen BK186.out 3
                                                  have p197 : 0 ≤ (x6_3 : Int) := of_decide_eq_true (by first | (with_reducible assumption) | assumption)
                                                  have q197 : x6_3 < (l0_3.length : Int) := of_decide_eq_true (by first | (with_reducible assumption) | assumption)
                                                  obtain ⟨ad197, A197_1, c197_1, e197, hx197_0, hx197_1, hl197_1, hi197_1⟩ := at_T51 HR0_3.out x6_3 p197 q197
                                                  cases e197
                                                  have Nhx197_0 := Aside0.mk hx197_0; replace hx197_0 := (HB.out.cell (World.block_lt_of_cell? w _ hx197_0)).trans hx197_0
                                                  have Nhx197_1 := Aside0.mk hx197_1; replace hx197_1 := (HB.out.cell (World.block_lt_of_cell? w _ hx197_1)).trans hx197_1
                                                  have HR197_1 := Aside0.mk hi197_1
                                                  have HC197_1 := Aside0.mk hl197_1
                                                  clear hi197_1 hl197_1
                                                  replace p197 := eq_true p197
                                                  replace q197 := eq_true q197
                                                  have p198 : 0 ≤ (x8_4 : Int) := of_decide_eq_true (by first | (with_reducible assumption) | assumption)
                                                  have q198 : x8_4 < (((rd_T51 l0_3 x6_3).f1).length : Int) := of_decide_eq_true (by first | (with_reducible assumption) | assumption)
                                                  obtain ⟨ad198, e198, hx198_0, hx198_1⟩ := at_T59 HR197_1.out x8_4 p198 q198
                                                  (try rw [← Nbq29.out] at hx198_0)
                                                  cases e198
                                                  have Nhx198_0 := Aside0.mk hx198_0; replace hx198_0 := (HB.out.cell (World.block_lt_of_cell? w _ hx198_0)).trans hx198_0
                                                  have Nhx198_1 := Aside0.mk hx198_1; replace hx198_1 := (HB.out.cell (World.block_lt_of_cell? w _ hx198_1)).trans hx198_1
                                                  replace p198 := eq_true p198
                                                  replace q198 := eq_true q198
                                                  go_wp2_with (first | ((with_reducible refine gate_dst (N := 9) rfl ?_); refine box_event ?hg (N := 9) ?hd (cs := #[.bool false, .int .i64 0]) (t := 59) ?hr ?_; (case hd => rfl); (case hg => rfl); (case hr => first | (go_simp; done) | (go_simp; rfl)); intro gb199 hg w43 hbox hb; have n0_ := Aside0.mk (Kd.R_below (by (with_reducible repeat (first | apply Kd.R_alloc | apply Kd.R_drewN | apply Kd.R_drew)); exact HO_3.out) hb); have n1_ := Aside0.mk (blk_below (g := gb186) (o := .cells #[.int .i64 a0_0, .int .i64 a0_1, .slice A0_2 l0_2.length c0_2, .slice (some ad197) l0_3.length c0_3] 25 (0, 0)) (by (with_reducible repeat (first | refine blk_drewN ?_ _ | refine blk_drew ?_ | refine blk_alloc ?_ _)); exact BK186.out) hb); have n2_ := Aside0.mk (below_step (by repeat (first | (with_reducible first | exact HB.out | apply below_alloc | apply pw_below_drewN | apply below_drew1 | refine below_set ?_ GE186.out) | exact HB.out)) hb); have n3_ := Aside0.mk (hbox); have n4_ := Aside0.mk ((by rw [hg]; exact (below_size (by repeat (first | (with_reducible first | exact HB.out | apply below_alloc | apply pw_below_drewN | apply below_drew1 | refine below_set ?_ GE186.out) | exact HB.out))) : w.heap.size ≤ gb199)); have n5_ := Aside0.mk ((by rw [hg]; exact (below_size (by repeat (first | (with_reducible first | exact HB.out | apply below_alloc | apply pw_below_drewN | apply below_drew1 | refine below_set ?_ GE186.out) | exact HB.out))) : w.heap.size ≤ gb199)); have n6_ := Aside0.mk ((by rw [hg]; exact Nat.ne_of_lt (blk_lt (g := gb186) (o := .cells #[.int .i64 a0_0, .int .i64 a0_1, .slice A0_2 l0_2.length c0_2, .slice (some ad197) l0_3.length c0_3] 25 (0, 0)) (by (with_reducible repeat (first | refine blk_drewN ?_ _ | refine blk_drew ?_ | refine blk_alloc ?_ _)); exact BK186.out)) : gb186 ≠ gb199)); have n7_ := Aside0.mk ((by rw [hg]; exact Nat.ne_of_gt (blk_lt (g := gb186) (o := .cells #[.int .i64 a0_0, .int .i64 a0_1, .slice A0_2 l0_2.length c0_2, .slice (some ad197) l0_3.length c0_3] 25 (0, 0)) (by (with_reducible repeat (first | refine blk_drewN ?_ _ | refine blk_drew ?_ | refine blk_alloc ?_ _)); exact BK186.out)) : gb199 ≠ gb186)); clear HO_3; clear BK186; clear HB; have HO_3 := n0_; have BK186 := n1_; have HB := n2_; have BK199 := n3_; have GW199 := n4_; have GE199 := n5_; have NB186_199 := n6_; have NB199_186 := n7_; clear n0_ n1_ n2_ n3_ n4_ n5_ n6_ n7_; clear hb hbox hg; have hnb44 := NB199_186.out; have hnc44 := NB186_199.out; have hcz45_0 : w43.cell? ⟨gb199, 0, none⟩ = some (.bool false) := (blk_cell BK199.out 0).trans rfl; have hcz45_1 : w43.cell? ⟨gb199, 1, none⟩ = some (.int .i64 0) := (blk_cell BK199.out 1).trans rfl; have hfz45_0 := blk_frozen BK199.out 0; have hfz45_1 := blk_frozen BK199.out 1; have p200 : 0 ≤ (((rd_T59 ((rd_T51 l0_3 x6_3).f1) x8_4).f1) : Int) := of_decide_eq_true (by first | (with_reducible assumption) | assumption); have q200 : ((rd_T59 ((rd_T51 l0_3 x6_3).f1) x8_4).f1) < (x3_3.length : Int) := of_decide_eq_true (by first | (with_reducible assumption) | assumption); obtain ⟨ad200, e200, hx200_0⟩ := Kd.at_int (Kd.R_reads' HO_3.out).2.2 ((rd_T59 ((rd_T51 l0_3 x6_3).f1) x8_4).f1) p200 q200; cases e200; have hn200_0 : ad200.block ≠ gb199 := Kd.own_blk (Kd.R_ne HO_3.out BK199.out (by decide)); have hn200_1 : ad200.block ≠ gb199 := Kd.own_blk (Kd.R_ne HO_3.out BK199.out (by decide)); replace hx200_0 := (cell_far (p := ⟨gb199, 0, none⟩) (by first | (rw [add_block]; exact hn200_0) | (show (Addr.add _ _).block ≠ _; rw [add_block]; exact hn200_0) | exact hn200_0) (.bool false)).trans hx200_0; replace hx200_0 := (cell_far (p := ⟨gb199, 1, none⟩) (by first | (rw [add_block]; exact hn200_1) | (show (Addr.add _ _).block ≠ _; rw [add_block]; exact hn200_1) | exact hn200_1) (.int .i64 ((rd_T59 ((rd_T51 l0_3 x6_3).f1) x8_4).f1))).trans hx200_0; clear hn200_0; clear hn200_1; replace p200 := eq_true p200; replace q200 := eq_true q200; have p201 : 0 ≤ (((rd_T59 ((rd_T51 l0_3 x6_3).f1) x8_4).f1) : Int) := of_decide_eq_true (by first | (with_reducible assumption) | assumption); have q201 : ((rd_T59 ((rd_T51 l0_3 x6_3).f1) x8_4).f1) < (x3_3.length : Int) := of_decide_eq_true (by first | (with_reducible assumption) | assumption); obtain ⟨ad201, e201, hx201_0⟩ := Kd.at_int (Kd.R_reads' HO_3.out).2.2 ((rd_T59 ((rd_T51 l0_3 x6_3).f1) x8_4).f1) p201 q201; obtain rfl : ad200 = ad201 := (by injection e201); have hn201_0 : ad200.block ≠ gb199 := Kd.own_blk (Kd.R_ne HO_3.out BK199.out (by decide)); have hn201_1 : ad200.block ≠ gb199 := Kd.own_blk (Kd.R_ne HO_3.out BK199.out (by decide)); replace hx201_0 := (cell_far (p := ⟨gb199, 0, none⟩) (by first | (rw [add_block]; exact hn201_0) | (show (Addr.add _ _).block ≠ _; rw [add_block]; exact hn201_0) | exact hn201_0) (.bool false)).trans hx201_0; replace hx201_0 := (cell_far (p := ⟨gb199, 1, none⟩) (by first | (rw [add_block]; exact hn201_1) | (show (Addr.add _ _).block ≠ _; rw [add_block]; exact hn201_1) | exact hn201_1) (.int .i64 ((rd_T59 ((rd_T51 l0_3 x6_3).f1) x8_4).f1))).trans hx201_0; clear hn201_0; clear hn201_1; replace p201 := eq_true p201; replace q201 := eq_true q201))
                                                  go_roundg kj17
                                                  case measure => have := HK1.out; have := HK2.out; have := HK3.out; have := HK4.out; have := HJ17.out; omega
                                                  case rel => exact ⟨(wrap64 (x7_4 + (rd x3_3 ((rd_T59 ((rd_T51 l0_3 x6_3).f1) x8_4).f1)))), (wrap64 (x8_4 + 1)), (by first | rfl | (simp; done) | (simp [*]; done)), (by first | rfl | (simp; done) | (simp [*]; done)), H', ⟨by have := HK1.out; have := HK2.out; have := HK3.out; have := HK4.out; have := HJ17.out; omega⟩, ⟨by (try simp only [hl3_2]); (try simp only [hl3_3]); (with_reducible repeat (first | apply Kd.R_alloc | apply Kd.R_drewN | apply Kd.R_drew)); exact Kd.R_mono (Kd.R_far (p := ⟨gb199, 1, none⟩) (Kd.R_far (p := ⟨gb199, 0, none⟩) (Kd.R_types HO_3.out BK199.out (by decide)) (fun _ hk => hk.2) (.bool false)) (fun _ hk => hk.2) (.int .i64 ((rd_T59 ((rd_T51 l0_3 x6_3).f1) x8_4).f1))) (fun _ hk => trivial)⟩, ⟨by (try simp only [hl3_2]); (try simp only [hl3_3]); (with_reducible repeat (first | refine blk_drewN ?_ _ | refine blk_drew ?_ | refine blk_alloc ?_ _)); refine blk_far ?_ NB186_199.out _; (with_reducible repeat (first | refine blk_drewN ?_ _ | refine blk_drew ?_ | refine blk_alloc ?_ _)); refine blk_far ?_ NB186_199.out _; (with_reducible repeat (first | refine blk_drewN ?_ _ | refine blk_drew ?_ | refine blk_alloc ?_ _)); exact BK186.out⟩, ⟨by repeat (first | (with_reducible first | exact HB.out | apply below_alloc | apply pw_below_drewN | apply below_drew1 | refine below_set ?_ GE186.out | refine below_set ?_ GE199.out) | exact HB.out)⟩⟩
                                              · rw [if_neg c36] at H
                                                exact absurd H (by simp)
                                            · rw [if_neg c35] at H
                                              exact absurd H (by simp)
                                        · rw [if_neg c28] at H
                                          exact absurd H (by simp)
                                      · rw [if_neg c27] at H
                                        exact absurd H (by simp)
                                    · rw [if_neg c26] at H
                                      exact absurd H (by simp)
                                  · rw [if_neg c25] at H
                                    exact absurd H (by simp)
                                · replace c24 := Bool.eq_false_iff.mpr c24
                                  subst c24
                                  have H1 : (if 0 ≤ x6_3 then (if x6_3 < (l0_3.length : Int) then (if (mn x7_4 1000000) ≥ 0 then (if 0 ≤ ((rd_T51 l0_3 x6_3).f0) then (if ((rd_T51 l0_3 x6_3).f0) < (x3_3.length : Int) then (if (rd x3_3 ((rd_T51 l0_3 x6_3).f0)) < 0 then (gramaryeref10_Least.l2 kj17 (x3_3.set (((rd_T51 l0_3 x6_3).f0) : Int).toNat (mn x7_4 1000000)) true (wrap64 (x6_3 + 1)) a0_0 a0_1 l0_2 l0_3) else (if (mn x7_4 1000000) < (rd x3_3 ((rd_T51 l0_3 x6_3).f0)) then (gramaryeref10_Least.l2 kj17 (x3_3.set (((rd_T51 l0_3 x6_3).f0) : Int).toNat (mn x7_4 1000000)) true (wrap64 (x6_3 + 1)) a0_0 a0_1 l0_2 l0_3) else (gramaryeref10_Least.l2 kj17 x3_3 x5_3 (wrap64 (x6_3 + 1)) a0_0 a0_1 l0_2 l0_3))) else (none)) else (none)) else (gramaryeref10_Least.l2 kj17 x3_3 x5_3 (wrap64 (x6_3 + 1)) a0_0 a0_1 l0_2 l0_3)) else (none)) else (none)) = some r := by rw [if_neg (show ¬ (false = true) by decide)] at H; exact H
                                  clear H
                                  have H := H1
                                  clear H1
                                  obtain ⟨ji46, hji46⟩ : ∃ j_ : Int, (mn x7_4 1000000) = j_ := ⟨_, rfl⟩
                                  replace H : (if 0 ≤ x6_3 then (if x6_3 < (l0_3.length : Int) then (if (ji46) ≥ 0 then (if 0 ≤ ((rd_T51 l0_3 x6_3).f0) then (if ((rd_T51 l0_3 x6_3).f0) < (x3_3.length : Int) then (if (rd x3_3 ((rd_T51 l0_3 x6_3).f0)) < 0 then (gramaryeref10_Least.l2 kj17 (x3_3.set (((rd_T51 l0_3 x6_3).f0) : Int).toNat (ji46)) true (wrap64 (x6_3 + 1)) a0_0 a0_1 l0_2 l0_3) else (if (ji46) < (rd x3_3 ((rd_T51 l0_3 x6_3).f0)) then (gramaryeref10_Least.l2 kj17 (x3_3.set (((rd_T51 l0_3 x6_3).f0) : Int).toNat (ji46)) true (wrap64 (x6_3 + 1)) a0_0 a0_1 l0_2 l0_3) else (gramaryeref10_Least.l2 kj17 x3_3 x5_3 (wrap64 (x6_3 + 1)) a0_0 a0_1 l0_2 l0_3))) else (none)) else (none)) else (gramaryeref10_Least.l2 kj17 x3_3 x5_3 (wrap64 (x6_3 + 1)) a0_0 a0_1 l0_2 l0_3)) else (none)) else (none)) = some r := by first | (rw [hji46] at H; exact H) | (simp only [hji46] at H ⊢; exact H)
                                  have hji46_ : (if 1000000 < x7_4 then 1000000 else x7_4) = ji46 := hji46
                                  by_cases c47 : 0 ≤ x6_3
                                  · rw [if_pos c47] at H
                                    have c47b0 : decide (0 ≤ x6_3) = true := decide_eq_true c47
                                    clear c47
                                    by_cases c48 : x6_3 < (l0_3.length : Int)
                                    · rw [if_pos c48] at H
                                      have c48b0 : decide (x6_3 < (l0_3.length : Int)) = true := decide_eq_true c48
                                      (try (have c48b0z := c48b0; simp only [hl3_2, hl3_3] at c48b0z))
                                      clear c48
                                      by_cases c49 : (ji46) ≥ 0
                                      · rw [if_pos c49] at H
                                        have c49b0 : decide (0 ≤ (ji46)) = true := decide_eq_true c49
                                        clear c49
                                        by_cases c50 : 0 ≤ ((rd_T51 l0_3 x6_3).f0)
                                        · rw [if_pos c50] at H
                                          have c50b0 : decide (0 ≤ ((rd_T51 l0_3 x6_3).f0)) = true := decide_eq_true c50
                                          clear c50
                                          by_cases c51 : ((rd_T51 l0_3 x6_3).f0) < (x3_3.length : Int)
                                          · rw [if_pos c51] at H
                                            have c51b0 : decide (((rd_T51 l0_3 x6_3).f0) < (x3_3.length : Int)) = true := decide_eq_true c51
                                            (try (have c51b0z := c51b0; simp only [hl3_2, hl3_3] at c51b0z))
                                            clear c51
                                            by_cases c52 : (rd x3_3 ((rd_T51 l0_3 x6_3).f0)) < 0
                                            · rw [if_pos c52] at H
                                              have c52b0 : decide ((rd x3_3 ((rd_T51 l0_3 x6_3).f0)) < 0) = true := decide_eq_true c52
                                              clear c52
                                              obtain ⟨y194, hy194⟩ : ∃ y_ : List Int, y_ = (x3_3.set (((rd_T51 l0_3 x6_3).f0) : Int).toNat (ji46)) := ⟨_, rfl⟩
                                              replace H : (gramaryeref10_Least.l2 kj17 y194 true (wrap64 (x6_3 + 1)) a0_0 a0_1 l0_2 l0_3) = some r := by first | (rw [hy194]; with_reducible exact H) | (have H2_ := (Option.bind_some _ _).symm.trans H; rw [hy194]; with_reducible exact H2_) | (have H2_ := (Option.bind_some _ _).symm.trans H; with_reducible exact H2_) | with_reducible exact H | (rw [hy194]; exact H) | exact H
                                              have Ny194 := Aside0.mk hy194
                                              clear hy194
                                              have H' := Aside0.mk H
                                              clear H
                                              have hcz54_0 : wc.cell? ⟨gb186, 0, none⟩ = some (.int .i64 a0_0) := (blk_cell BK186.out 0).trans rfl
                                              have hcz54_1 : wc.cell? ⟨gb186, 1, none⟩ = some (.int .i64 a0_1) := (blk_cell BK186.out 1).trans rfl
                                              have hcz54_2 : wc.cell? ⟨gb186, 2, none⟩ = some (.slice A0_2 l0_2.length c0_2) := (blk_cell BK186.out 2).trans rfl
                                              have hcz54_3 : wc.cell? ⟨gb186, 3, none⟩ = some (.slice A0_3 l0_3.length c0_3) := (blk_cell BK186.out 3).trans rfl
                                              have hfz54_0 := blk_frozen BK186.out 0
                                              have hfz54_1 := blk_frozen BK186.out 1
                                              have hfz54_2 := blk_frozen BK186.out 2
                                              have hfz54_3 := blk_frozen BK186.out 3
                                              have p192 : 0 ≤ (x6_3 : Int) := of_decide_eq_true (by first | (with_reducible assumption) | assumption)
                                              have q192 : x6_3 < (l0_3.length : Int) := of_decide_eq_true (by first | (with_reducible assumption) | assumption)
                                              obtain ⟨ad192, A192_1, c192_1, e192, hx192_0, hx192_1, hl192_1, hi192_1⟩ := at_T51 HR0_3.out x6_3 p192 q192
                                              cases e192
                                              have Nhx192_0 := Aside0.mk hx192_0; replace hx192_0 := (HB.out.cell (World.block_lt_of_cell? w _ hx192_0)).trans hx192_0
                                              have Nhx192_1 := Aside0.mk hx192_1; replace hx192_1 := (HB.out.cell (World.block_lt_of_cell? w _ hx192_1)).trans hx192_1
                                              have HR192_1 := Aside0.mk hi192_1
                                              have HC192_1 := Aside0.mk hl192_1
                                              clear hi192_1 hl192_1
                                              replace p192 := eq_true p192
                                              replace q192 := eq_true q192
                                              have p193 : 0 ≤ (((rd_T51 l0_3 x6_3).f0) : Int) := of_decide_eq_true (by first | (with_reducible assumption) | assumption)
                                              have q193 : ((rd_T51 l0_3 x6_3).f0) < (x3_3.length : Int) := of_decide_eq_true (by first | (with_reducible assumption) | assumption)
                                              obtain ⟨ad193, e193, hx193_0⟩ := Kd.at_int (Kd.R_reads' HO_3.out).2.2 ((rd_T51 l0_3 x6_3).f0) p193 q193
                                              cases e193
                                              replace p193 := eq_true p193
                                              replace q193 := eq_true q193
                                              have p53 : 0 ≤ (((rd_T51 l0_3 x6_3).f0) : Int) := of_decide_eq_true (by first | (with_reducible assumption) | assumption)
                                              have q53 : (((rd_T51 l0_3 x6_3).f0) : Int) < ((x3_3.length : Int) : Int) := of_decide_eq_true (by first | (with_reducible assumption) | assumption)
                                              obtain ⟨go53, co53, eo53, gb53, gl53, cl53, HG53⟩ := Kd.R_form HO_3.out (by omega)
                                              (first | cases eo53 | (injection eo53 with ea_ en_ ec_; (first | subst ea_ | (injection ea_ with ea_; subst ea_)); subst ec_; clear en_))
                                              have GB53 := Aside0.mk gb53
                                              have GG53 := Aside0.mk HG53
                                              clear gb53 gl53 HG53
                                              (first | simp only [add_plain] at hx193_0 | skip)
                                              obtain ⟨hx53_0, hf53_0⟩ := Kd.R_celln 0 HO_3.out (((rd_T51 l0_3 x6_3).f0) : Int) p53 q53
                                              replace p53 := eq_true p53
                                              replace q53 := eq_true q53
                                              have HP55 := Kd.R_putg HO_3.out (((rd_T51 l0_3 x6_3).f0) : Int) ji46
                                              go_wp2_with (first | ((with_reducible refine gate_store (t := 3) (p := 101) rfl ?_); refine store_event (t := 3) (p := 101) (v := ?vo_w56) (w1 := (wc.setCell ⟨go53, (((rd_T51 l0_3 x6_3).f0) : Int).toNat, none⟩ (.int .i64 ji46))) ?hg ?ho ?hn ?hr ?_; (case ho => rfl); (case hg => rfl); (case hn => rfl); (case hr => first | (go_simp; done) | (go_simp; rfl)); intro w56 hw; have hg : wc.grownBy w56 (some go53) := (by rw [hw]; exact HP55.2); have hp_ : Kd.R (Kd.int .i64) 3 w56 w.heap.size (fun _ => True) (.slice (some ⟨go53, 0, none⟩) x3_3.length co14) y194 := (by rw [hw, Ny194.out]; exact HP55.1); clear HP55; have n0_ := Aside0.mk (hp_); have n1_ := Aside0.mk (blk_grown (g := gb186) (o := .cells #[.int .i64 a0_0, .int .i64 a0_1, .slice A0_2 l0_2.length c0_2, .slice (some ad192) l0_3.length c0_3] 25 (0, 0)) (by (with_reducible repeat (first | refine blk_drewN ?_ _ | refine blk_drew ?_ | refine blk_alloc ?_ _)); exact BK186.out) hg (Kd.R_ne HO_3.out BK186.out (by decide))); have n2_ := Aside0.mk ((by rw [hw]; exact below_set (HB.out) GB53.out : Below w.heap.size w w56)); clear HO_3; clear BK186; clear HB; have HO_3 := n0_; have BK186 := n1_; have HB := n2_; clear n0_ n1_ n2_; clear hg hw hp_))
                                              (try simp only [← hl3_3])
                                              go_roundg kj17
                                              case measure => have := HK1.out; have := HK2.out; have := HK3.out; have := HK4.out; have := HJ17.out; omega
                                              case rel => exact ⟨(y194), (true), (wrap64 (x6_3 + 1)), (by first | rfl | (simp; done) | (simp [*]; done)), (by first | rfl | (simp; done) | (simp [*]; done)), H', ⟨by have := HK1.out; have := HK2.out; have := HK3.out; have := HK4.out; have := HJ17.out; omega⟩, ⟨by (try simp only [hl3_2]); (try simp only [hl3_3]); (with_reducible repeat (first | apply Kd.R_alloc | apply Kd.R_drewN | apply Kd.R_drew)); exact HO_3.out⟩, ⟨by (try simp only [hl3_2]); (try simp only [hl3_3]); (with_reducible repeat (first | refine blk_drewN ?_ _ | refine blk_drew ?_ | refine blk_alloc ?_ _)); exact BK186.out⟩, ⟨by repeat (first | (with_reducible first | exact HB.out | apply below_alloc | apply pw_below_drewN | apply below_drew1 | refine below_set ?_ GE186.out) | exact HB.out)⟩⟩
                                            · rw [if_neg c52] at H
                                              have c52b0 : decide ((rd x3_3 ((rd_T51 l0_3 x6_3).f0)) < 0) = false := decide_eq_false c52
                                              clear c52
                                              by_cases c57 : (ji46) < (rd x3_3 ((rd_T51 l0_3 x6_3).f0))
                                              · rw [if_pos c57] at H
                                                have c57b0 : decide ((ji46) < (rd x3_3 ((rd_T51 l0_3 x6_3).f0))) = true := decide_eq_true c57
                                                clear c57
                                                obtain ⟨y196, hy196⟩ : ∃ y_ : List Int, y_ = (x3_3.set (((rd_T51 l0_3 x6_3).f0) : Int).toNat (ji46)) := ⟨_, rfl⟩
                                                replace H : (gramaryeref10_Least.l2 kj17 y196 true (wrap64 (x6_3 + 1)) a0_0 a0_1 l0_2 l0_3) = some r := by first | (rw [hy196]; with_reducible exact H) | (have H2_ := (Option.bind_some _ _).symm.trans H; rw [hy196]; with_reducible exact H2_) | (have H2_ := (Option.bind_some _ _).symm.trans H; with_reducible exact H2_) | with_reducible exact H | (rw [hy196]; exact H) | exact H
                                                have Ny196 := Aside0.mk hy196
                                                clear hy196
                                                have H' := Aside0.mk H
                                                clear H
                                                have hcz59_0 : wc.cell? ⟨gb186, 0, none⟩ = some (.int .i64 a0_0) := (blk_cell BK186.out 0).trans rfl
                                                have hcz59_1 : wc.cell? ⟨gb186, 1, none⟩ = some (.int .i64 a0_1) := (blk_cell BK186.out 1).trans rfl
                                                have hcz59_2 : wc.cell? ⟨gb186, 2, none⟩ = some (.slice A0_2 l0_2.length c0_2) := (blk_cell BK186.out 2).trans rfl
                                                have hcz59_3 : wc.cell? ⟨gb186, 3, none⟩ = some (.slice A0_3 l0_3.length c0_3) := (blk_cell BK186.out 3).trans rfl
                                                have hfz59_0 := blk_frozen BK186.out 0
                                                have hfz59_1 := blk_frozen BK186.out 1
                                                have hfz59_2 := blk_frozen BK186.out 2
                                                have hfz59_3 := blk_frozen BK186.out 3
                                                have p192 : 0 ≤ (x6_3 : Int) := of_decide_eq_true (by first | (with_reducible assumption) | assumption)
                                                have q192 : x6_3 < (l0_3.length : Int) := of_decide_eq_true (by first | (with_reducible assumption) | assumption)
                                                obtain ⟨ad192, A192_1, c192_1, e192, hx192_0, hx192_1, hl192_1, hi192_1⟩ := at_T51 HR0_3.out x6_3 p192 q192
                                                cases e192
                                                have Nhx192_0 := Aside0.mk hx192_0; replace hx192_0 := (HB.out.cell (World.block_lt_of_cell? w _ hx192_0)).trans hx192_0
                                                have Nhx192_1 := Aside0.mk hx192_1; replace hx192_1 := (HB.out.cell (World.block_lt_of_cell? w _ hx192_1)).trans hx192_1
                                                have HR192_1 := Aside0.mk hi192_1
                                                have HC192_1 := Aside0.mk hl192_1
                                                clear hi192_1 hl192_1
                                                replace p192 := eq_true p192
                                                replace q192 := eq_true q192
                                                have p193 : 0 ≤ (((rd_T51 l0_3 x6_3).f0) : Int) := of_decide_eq_true (by first | (with_reducible assumption) | assumption)
                                                have q193 : ((rd_T51 l0_3 x6_3).f0) < (x3_3.length : Int) := of_decide_eq_true (by first | (with_reducible assumption) | assumption)
                                                obtain ⟨ad193, e193, hx193_0⟩ := Kd.at_int (Kd.R_reads' HO_3.out).2.2 ((rd_T51 l0_3 x6_3).f0) p193 q193
                                                cases e193
                                                replace p193 := eq_true p193
                                                replace q193 := eq_true q193
                                                have p195 : 0 ≤ (((rd_T51 l0_3 x6_3).f0) : Int) := of_decide_eq_true (by first | (with_reducible assumption) | assumption)
                                                have q195 : ((rd_T51 l0_3 x6_3).f0) < (x3_3.length : Int) := of_decide_eq_true (by first | (with_reducible assumption) | assumption)
                                                obtain ⟨ad195, e195, hx195_0⟩ := Kd.at_int (Kd.R_reads' HO_3.out).2.2 ((rd_T51 l0_3 x6_3).f0) p195 q195
                                                obtain rfl : ad193 = ad195 := (by injection e195)
                                                replace p195 := eq_true p195
                                                replace q195 := eq_true q195
                                                have p58 : 0 ≤ (((rd_T51 l0_3 x6_3).f0) : Int) := of_decide_eq_true (by first | (with_reducible assumption) | assumption)
                                                have q58 : (((rd_T51 l0_3 x6_3).f0) : Int) < ((x3_3.length : Int) : Int) := of_decide_eq_true (by first | (with_reducible assumption) | assumption)
                                                obtain ⟨go58, co58, eo58, gb58, gl58, cl58, HG58⟩ := Kd.R_form HO_3.out (by omega)
                                                (first | cases eo58 | (injection eo58 with ea_ en_ ec_; (first | subst ea_ | (injection ea_ with ea_; subst ea_)); subst ec_; clear en_))
                                                have GB58 := Aside0.mk gb58
                                                have GG58 := Aside0.mk HG58
                                                clear gb58 gl58 HG58
                                                (first | simp only [add_plain] at hx193_0 | skip)
                                                (first | simp only [add_plain] at hx195_0 | skip)
                                                obtain ⟨hx58_0, hf58_0⟩ := Kd.R_celln 0 HO_3.out (((rd_T51 l0_3 x6_3).f0) : Int) p58 q58
                                                replace p58 := eq_true p58
                                                replace q58 := eq_true q58
                                                have HP60 := Kd.R_putg HO_3.out (((rd_T51 l0_3 x6_3).f0) : Int) ji46
                                                go_wp2_with (first | ((with_reducible refine gate_store (t := 3) (p := 101) rfl ?_); refine store_event (t := 3) (p := 101) (v := ?vo_w61) (w1 := (wc.setCell ⟨go58, (((rd_T51 l0_3 x6_3).f0) : Int).toNat, none⟩ (.int .i64 ji46))) ?hg ?ho ?hn ?hr ?_; (case ho => rfl); (case hg => rfl); (case hn => rfl); (case hr => first | (go_simp; done) | (go_simp; rfl)); intro w61 hw; have hg : wc.grownBy w61 (some go58) := (by rw [hw]; exact HP60.2); have hp_ : Kd.R (Kd.int .i64) 3 w61 w.heap.size (fun _ => True) (.slice (some ⟨go58, 0, none⟩) x3_3.length co14) y196 := (by rw [hw, Ny196.out]; exact HP60.1); clear HP60; have n0_ := Aside0.mk (hp_); have n1_ := Aside0.mk (blk_grown (g := gb186) (o := .cells #[.int .i64 a0_0, .int .i64 a0_1, .slice A0_2 l0_2.length c0_2, .slice (some ad192) l0_3.length c0_3] 25 (0, 0)) (by (with_reducible repeat (first | refine blk_drewN ?_ _ | refine blk_drew ?_ | refine blk_alloc ?_ _)); exact BK186.out) hg (Kd.R_ne HO_3.out BK186.out (by decide))); have n2_ := Aside0.mk ((by rw [hw]; exact below_set (HB.out) GB58.out : Below w.heap.size w w61)); clear HO_3; clear BK186; clear HB; have HO_3 := n0_; have BK186 := n1_; have HB := n2_; clear n0_ n1_ n2_; clear hg hw hp_))
                                                (try simp only [← hl3_3])
                                                go_roundg kj17
                                                case measure => have := HK1.out; have := HK2.out; have := HK3.out; have := HK4.out; have := HJ17.out; omega
                                                case rel => exact ⟨(y196), (true), (wrap64 (x6_3 + 1)), (by first | rfl | (simp; done) | (simp [*]; done)), (by first | rfl | (simp; done) | (simp [*]; done)), H', ⟨by have := HK1.out; have := HK2.out; have := HK3.out; have := HK4.out; have := HJ17.out; omega⟩, ⟨by (try simp only [hl3_2]); (try simp only [hl3_3]); (with_reducible repeat (first | apply Kd.R_alloc | apply Kd.R_drewN | apply Kd.R_drew)); exact HO_3.out⟩, ⟨by (try simp only [hl3_2]); (try simp only [hl3_3]); (with_reducible repeat (first | refine blk_drewN ?_ _ | refine blk_drew ?_ | refine blk_alloc ?_ _)); exact BK186.out⟩, ⟨by repeat (first | (with_reducible first | exact HB.out | apply below_alloc | apply pw_below_drewN | apply below_drew1 | refine below_set ?_ GE186.out) | exact HB.out)⟩⟩
                                              · rw [if_neg c57] at H
                                                have c57b0 : decide ((ji46) < (rd x3_3 ((rd_T51 l0_3 x6_3).f0))) = false := decide_eq_false c57
                                                clear c57
                                                have H' := Aside0.mk H
                                                clear H
                                                have hcz62_0 : wc.cell? ⟨gb186, 0, none⟩ = some (.int .i64 a0_0) := (blk_cell BK186.out 0).trans rfl
                                                have hcz62_1 : wc.cell? ⟨gb186, 1, none⟩ = some (.int .i64 a0_1) := (blk_cell BK186.out 1).trans rfl
                                                have hcz62_2 : wc.cell? ⟨gb186, 2, none⟩ = some (.slice A0_2 l0_2.length c0_2) := (blk_cell BK186.out 2).trans rfl
                                                have hcz62_3 : wc.cell? ⟨gb186, 3, none⟩ = some (.slice A0_3 l0_3.length c0_3) := (blk_cell BK186.out 3).trans rfl
                                                have hfz62_0 := blk_frozen BK186.out 0
                                                have hfz62_1 := blk_frozen BK186.out 1
                                                have hfz62_2 := blk_frozen BK186.out 2
                                                have hfz62_3 := blk_frozen BK186.out 3
                                                have p192 : 0 ≤ (x6_3 : Int) := of_decide_eq_true (by first | (with_reducible assumption) | assumption)
                                                have q192 : x6_3 < (l0_3.length : Int) := of_decide_eq_true (by first | (with_reducible assumption) | assumption)
                                                obtain ⟨ad192, A192_1, c192_1, e192, hx192_0, hx192_1, hl192_1, hi192_1⟩ := at_T51 HR0_3.out x6_3 p192 q192
                                                cases e192
                                                have Nhx192_0 := Aside0.mk hx192_0; replace hx192_0 := (HB.out.cell (World.block_lt_of_cell? w _ hx192_0)).trans hx192_0
                                                have Nhx192_1 := Aside0.mk hx192_1; replace hx192_1 := (HB.out.cell (World.block_lt_of_cell? w _ hx192_1)).trans hx192_1
                                                have HR192_1 := Aside0.mk hi192_1
                                                have HC192_1 := Aside0.mk hl192_1
                                                clear hi192_1 hl192_1
                                                replace p192 := eq_true p192
                                                replace q192 := eq_true q192
                                                have p193 : 0 ≤ (((rd_T51 l0_3 x6_3).f0) : Int) := of_decide_eq_true (by first | (with_reducible assumption) | assumption)
                                                have q193 : ((rd_T51 l0_3 x6_3).f0) < (x3_3.length : Int) := of_decide_eq_true (by first | (with_reducible assumption) | assumption)
                                                obtain ⟨ad193, e193, hx193_0⟩ := Kd.at_int (Kd.R_reads' HO_3.out).2.2 ((rd_T51 l0_3 x6_3).f0) p193 q193
                                                cases e193
                                                replace p193 := eq_true p193
                                                replace q193 := eq_true q193
                                                have p195 : 0 ≤ (((rd_T51 l0_3 x6_3).f0) : Int) := of_decide_eq_true (by first | (with_reducible assumption) | assumption)
                                                have q195 : ((rd_T51 l0_3 x6_3).f0) < (x3_3.length : Int) := of_decide_eq_true (by first | (with_reducible assumption) | assumption)
                                                obtain ⟨ad195, e195, hx195_0⟩ := Kd.at_int (Kd.R_reads' HO_3.out).2.2 ((rd_T51 l0_3 x6_3).f0) p195 q195
                                                obtain rfl : ad193 = ad195 := (by injection e195)
                                                replace p195 := eq_true p195
                                                replace q195 := eq_true q195
                                                go_wp2
                                                (try simp only [← hl3_3])
                                                go_roundg kj17
                                                case measure => have := HK1.out; have := HK2.out; have := HK3.out; have := HK4.out; have := HJ17.out; omega
                                                case rel => exact ⟨(x3_3), (x5_3), (wrap64 (x6_3 + 1)), (by first | rfl | (simp; done) | (simp [*]; done)), (by first | rfl | (simp; done) | (simp [*]; done)), H', ⟨by have := HK1.out; have := HK2.out; have := HK3.out; have := HK4.out; have := HJ17.out; omega⟩, ⟨by (try simp only [hl3_2]); (try simp only [hl3_3]); (with_reducible repeat (first | apply Kd.R_alloc | apply Kd.R_drewN | apply Kd.R_drew)); exact HO_3.out⟩, ⟨by (try simp only [hl3_2]); (try simp only [hl3_3]); (with_reducible repeat (first | refine blk_drewN ?_ _ | refine blk_drew ?_ | refine blk_alloc ?_ _)); exact BK186.out⟩, ⟨by repeat (first | (with_reducible first | exact HB.out | apply below_alloc | apply pw_below_drewN | apply below_drew1 | refine below_set ?_ GE186.out) | exact HB.out)⟩⟩
                                          · rw [if_neg c51] at H
                                            exact absurd H (by simp)
                                        · rw [if_neg c50] at H
                                          exact absurd H (by simp)
                                      · rw [if_neg c49] at H
                                        have c49b0 : decide (0 ≤ (ji46)) = false := decide_eq_false c49
                                        clear c49
                                        have H' := Aside0.mk H
                                        clear H
                                        have hcz63_0 : wc.cell? ⟨gb186, 0, none⟩ = some (.int .i64 a0_0) := (blk_cell BK186.out 0).trans rfl
                                        have hcz63_1 : wc.cell? ⟨gb186, 1, none⟩ = some (.int .i64 a0_1) := (blk_cell BK186.out 1).trans rfl
                                        have hcz63_2 : wc.cell? ⟨gb186, 2, none⟩ = some (.slice A0_2 l0_2.length c0_2) := (blk_cell BK186.out 2).trans rfl
                                        have hcz63_3 : wc.cell? ⟨gb186, 3, none⟩ = some (.slice A0_3 l0_3.length c0_3) := (blk_cell BK186.out 3).trans rfl
                                        have hfz63_0 := blk_frozen BK186.out 0
                                        have hfz63_1 := blk_frozen BK186.out 1
                                        have hfz63_2 := blk_frozen BK186.out 2
                                        have hfz63_3 := blk_frozen BK186.out 3
                                        have p192 : 0 ≤ (x6_3 : Int) := of_decide_eq_true (by first | (with_reducible assumption) | assumption)
                                        have q192 : x6_3 < (l0_3.length : Int) := of_decide_eq_true (by first | (with_reducible assumption) | assumption)
                                        obtain ⟨ad192, A192_1, c192_1, e192, hx192_0, hx192_1, hl192_1, hi192_1⟩ := at_T51 HR0_3.out x6_3 p192 q192
                                        cases e192
                                        have Nhx192_0 := Aside0.mk hx192_0; replace hx192_0 := (HB.out.cell (World.block_lt_of_cell? w _ hx192_0)).trans hx192_0
                                        have Nhx192_1 := Aside0.mk hx192_1; replace hx192_1 := (HB.out.cell (World.block_lt_of_cell? w _ hx192_1)).trans hx192_1
                                        have HR192_1 := Aside0.mk hi192_1
                                        have HC192_1 := Aside0.mk hl192_1
                                        clear hi192_1 hl192_1
                                        replace p192 := eq_true p192
                                        replace q192 := eq_true q192
                                        go_wp2
                                        (try simp only [← hl3_3])
                                        go_roundg kj17
                                        case measure => have := HK1.out; have := HK2.out; have := HK3.out; have := HK4.out; have := HJ17.out; omega
                                        case rel => exact ⟨(x3_3), (x5_3), (wrap64 (x6_3 + 1)), (by first | rfl | (simp; done) | (simp [*]; done)), (by first | rfl | (simp; done) | (simp [*]; done)), H', ⟨by have := HK1.out; have := HK2.out; have := HK3.out; have := HK4.out; have := HJ17.out; omega⟩, ⟨by (try simp only [hl3_2]); (try simp only [hl3_3]); (with_reducible repeat (first | apply Kd.R_alloc | apply Kd.R_drewN | apply Kd.R_drew)); exact HO_3.out⟩, ⟨by (try simp only [hl3_2]); (try simp only [hl3_3]); (with_reducible repeat (first | refine blk_drewN ?_ _ | refine blk_drew ?_ | refine blk_alloc ?_ _)); exact BK186.out⟩, ⟨by repeat (first | (with_reducible first | exact HB.out | apply below_alloc | apply pw_below_drewN | apply below_drew1 | refine below_set ?_ GE186.out) | exact HB.out)⟩⟩
                                    · rw [if_neg c48] at H
                                      exact absurd H (by simp)
                                  · rw [if_neg c47] at H
                                    exact absurd H (by simp)
                      · rw [if_neg c16] at H
                        have c16b0 : decide (x6_3 < (l0_3.length : Int)) = false := decide_eq_false c16
                        (try (have c16b0z := c16b0; simp only [hl3_2, hl3_3] at c16b0z))
                        clear c16
                        have H' := Aside0.mk H
                        clear H
                        have hcz64_0 : wr.cell? ⟨gb186, 0, none⟩ = some (.int .i64 a0_0) := (blk_cell BK186.out 0).trans rfl
                        have hcz64_1 : wr.cell? ⟨gb186, 1, none⟩ = some (.int .i64 a0_1) := (blk_cell BK186.out 1).trans rfl
                        have hcz64_2 : wr.cell? ⟨gb186, 2, none⟩ = some (.slice A0_2 l0_2.length c0_2) := (blk_cell BK186.out 2).trans rfl
                        have hcz64_3 : wr.cell? ⟨gb186, 3, none⟩ = some (.slice A0_3 l0_3.length c0_3) := (blk_cell BK186.out 3).trans rfl
                        have hfz64_0 := blk_frozen BK186.out 0
                        have hfz64_1 := blk_frozen BK186.out 1
                        have hfz64_2 := blk_frozen BK186.out 2
                        have hfz64_3 := blk_frozen BK186.out 3
                        go_wp2
                        (try simp only [← hl3_2, ← hl3_3])
                        go_roundg k3
                        case measure => have := HK1.out; have := HK2.out; have := HK3.out; omega
                        case rel => exact ⟨(x3_3), (x5_3), (by first | rfl | (simp; done) | (simp [*]; done)), H', ⟨by have := HK1.out; have := HK2.out; have := HK3.out; omega⟩, ⟨by (try simp only [hl3_2]); (try simp only [hl3_3]); (with_reducible repeat (first | apply Kd.R_alloc | apply Kd.R_drewN | apply Kd.R_drew)); exact HO_3.out⟩, ⟨by (try simp only [hl3_2]); (try simp only [hl3_3]); (with_reducible repeat (first | refine blk_drewN ?_ _ | refine blk_drew ?_ | refine blk_alloc ?_ _)); exact BK186.out⟩, ⟨by repeat (first | (with_reducible first | exact HB.out | apply below_alloc | apply pw_below_drewN | apply below_drew1 | refine below_set ?_ GE186.out) | exact HB.out)⟩⟩
                · replace c15 := Bool.eq_false_iff.mpr c15
                  subst c15
                  have H1 : (some x3_2) = some r := by rw [if_neg (show ¬ (false = true) by decide)] at H; exact H
                  clear H
                  have H := H1
                  clear H1
                  obtain rfl := Option.some.inj H
                  go_wp2
                  go_ret
                  exact ⟨_, by first | rfl | (simp [errW_none, errW_some] <;> rfl) | (simp [*, errW_none, errW_some] <;> rfl), by (with_reducible repeat (first | apply Kd.R_alloc | apply Kd.R_drewN | apply Kd.R_drew)); exact HO_3.out, by repeat (first | (with_reducible first | exact HB.out | apply below_alloc | apply pw_below_drewN | apply below_drew1 | refine below_set ?_ GE186.out) | exact HB.out)⟩
    · rw [if_neg c3] at H
      exact absurd H (by simp)
  · rw [if_neg c2] at H
    exact absurd H (by simp)

end Go.Proofs.Ytmpdilifoblnaaa.MEmptyLeast
