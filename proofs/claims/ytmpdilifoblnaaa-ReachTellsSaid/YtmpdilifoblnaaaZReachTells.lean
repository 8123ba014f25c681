/-  -/
import Derived.Test.YtmpdilifoblnaaaRows
import Derived.WalkKit
import Derived.ProofKit
import Derived.OpenShut
import Derived.ShutString
import Derived.ChangeOld
import Derived.Below
import Derived.SizedLaws
import Derived.Carry
import Derived.Test.YtmpdilifoblnaaaZReachTellsx2
import Derived.Test.YtmpdilifoblnaaaZReachTellsx0
import Derived.Test.YtmpdilifoblnaaaZReachTellsx1
import Derived.Test.YtmpdilifoblnaaaZReachTellsReads
import Derived.Test.YtmpdilifoblnaaaZReachTellsBase
import Derived.Test.YtmpdilifoblnaaaZReachTellsFix
section
namespace Go.Proofs.Ytmpdilifoblnaaa.MReachTells
open Go.RowKit Go.Proofs.YtmpdilifoblnaaaW.PrintWords Go.Proofs.YtmpdilifoblnaaaW.PrintLast Go.Proofs.YtmpdilifoblnaaaW.PrintMore Go.Proofs.Ytmpdilifoblnaaa.Fun Go.Proofs.Ytmpdilifoblnaaa.Mem
attribute [local go_sem] max2_int min2_int max_two min_two max_three min_three max_four min_four
set_option linter.unusedVariables false
set_option linter.unusedSimpArgs false
mutual
def gramaryeref11_from.l0 : Nat → Bool → List Int → Int → Int → Int → List Int → List (S51) → Option (List Int)
  | 0, _, _, _, _, _, _, _ => none
  | k + 1, x2, x7, x8, x250000, x250001, x250002, x250003 => if x8 < (x7.length : Int) then (if 0 ≤ x8 then ((gramaryeref11_Next.f k x250000 x250001 x250002 x250003 (rd x7 x8) x2).bind fun t254 => (gramaryeref11_from.l1 k x2 x7 x8 t254 0 x250000 x250001 x250002 x250003)) else (none)) else (some x7)
def gramaryeref11_from.l1 : Nat → Bool → List Int → Int → List Int → Int → Int → Int → List Int → List (S51) → Option (List Int)
  | 0, _, _, _, _, _, _, _, _, _ => none
  | k + 1, x2, x7, x8, x9, x10, x250000, x250001, x250002, x250003 => if x10 < (x9.length : Int) then (if 0 ≤ x10 then ((gramaryebase_HasInt.f k x7 (rd x9 x10)).bind fun t258 => (if t258 = true then (gramaryeref11_from.l1 k x2 x7 x8 x9 (wrap64 (x10 + 1)) x250000 x250001 x250002 x250003) else (if x7.length < 17592186044416 then (gramaryeref11_from.l1 k x2 (x7 ++ [rd x9 x10]) x8 x9 (wrap64 (x10 + 1)) x250000 x250001 x250002 x250003) else (none)))) else (none)) else (gramaryeref11_from.l0 k x2 x7 (wrap64 (x8 + 1)) x250000 x250001 x250002 x250003)
end
def gramaryeref11_from.f (k : Nat) (a0_0 : Int) (a0_1 : Int) (l0_2 : List Int) (l0_3 : List (S51)) (l1 : List Int) (a2 : Bool) : Option (List Int) := (gramaryebase_Ints.f l1).bind fun t250 => (gramaryeref11_from.l0 k a2 t250 0 a0_0 a0_1 l0_2 l0_3)
def gramaryeref11_from.T5 : Bool × List (List Nat × List Nat) := (true, [([], []), ([], []), ([], []), ([1, 2], [1, 2]), ([3], [3]), ([], []), ([0, 4, 5], [0, 4, 5]), ([6, 6, 0, 1, 2, 3, 4, 5, 6], [6])])
def gramaryeref11_from.B5 : List Nat := [0, 0, 0, 6, 14, 0, 63, 127]
theorem gramaryeref11_from.tab5 : rtab .any (opsOf Try.f55 5) = gramaryeref11_from.T5 := by kernel_rfl
theorem gramaryeref11_from.bits5 : waitsOk gramaryeref11_from.T5.2 gramaryeref11_from.B5 = true := by kernel_rfl
set_option maxHeartbeats 8000000 in
set_option maxRecDepth 100000 in
theorem gramaryeref11_from.calls (k : Nat) (a0_0 : Int) (a0_1 : Int) (A0_2 : Option Addr) (c0_2 : Nat) (l0_2 : List Int) (A0_3 : Option Addr) (c0_3 : Nat) (l0_3 : List (S51)) (A1 : Option Addr) (c1 : Nat) (l1 : List Int) (a2 : Bool) (r : List Int) (w : World) (hr0_2 : Kd.C (Kd.int .i64) w A0_2 l0_2.length l0_2) (hc0_2 : l0_2.length ≤ c0_2) (hr0_3 : Kd.C k51 w A0_3 l0_3.length l0_3) (hc0_3 : l0_3.length ≤ c0_3) (hr1 : Kd.C (Kd.int .i64) w A1 l1.length l1) (hc1 : l1.length ≤ c1) (h : gramaryeref11_from.f k a0_0 a0_1 l0_2 l0_3 l1 a2 = some r) :
    Calls Try.prog 55 #[.agg #[.int .i64 a0_0, .int .i64 a0_1, .slice A0_2 l0_2.length c0_2, .slice A0_3 l0_3.length c0_3], .slice A1 l1.length c1, .bool a2] w fun e w' => ∃ v0_ : Value, e = .returned (v0_) ∧ Kd.R (Kd.int .i64) 3 w' w.heap.size (fun _ => True) v0_ r ∧ Below w.heap.size w w' := by
  have hu25 := Try.underlying25
  have HR0_2 := Aside0.mk hr0_2
  have HC0_2 := Aside0.mk hc0_2
  clear hr0_2 hc0_2
  have HR0_3 := Aside0.mk hr0_3
  have HC0_3 := Aside0.mk hc0_3
  clear hr0_3 hc0_3
  have HR1 := Aside0.mk hr1
  have HC1 := Aside0.mk hc1
  clear hr1 hc1
  have HB := Aside0.mk (Below.refl w.heap.size w)
  have H : ((gramaryebase_Ints.f l1).bind fun t250 => (gramaryeref11_from.l0 k a2 t250 0 a0_0 a0_1 l0_2 l0_3)) = some r := h
  clear h
  replace H := Option.bind_eq_some_iff.mp H
  obtain ⟨t250, A40, H⟩ := H
  replace H : (gramaryeref11_from.l0 k a2 t250 0 a0_0 a0_1 l0_2 l0_3) = some r := H
  have A4 := Aside0.mk A40
  clear A40
  have H' := Aside0.mk H
  clear H
  go_enter Try.func55, Try.ntmps55
  go_wp2_with (first | ((with_reducible refine gate_dst (N := 3) rfl ?_); refine box_event ?hg (N := 3) ?hd (cs := #[.int .i64 a0_0, .int .i64 a0_1, .slice A0_2 l0_2.length c0_2, .slice A0_3 l0_3.length c0_3]) (t := 25) ?hr ?_; (case hd => rfl); (case hg => rfl); (case hr => first | (go_simp; done) | (go_simp; rfl)); intro gb249 hg w5 hbox hb; have n0_ := Aside0.mk (below_step (by repeat (first | (with_reducible first | exact HB.out | apply below_alloc | apply pw_below_drewN | apply below_drew1) | exact HB.out)) hb); have n1_ := Aside0.mk (hbox); have n2_ := Aside0.mk ((by rw [hg]; exact (below_size (by repeat (first | (with_reducible first | exact HB.out | apply below_alloc | apply pw_below_drewN | apply below_drew1) | exact HB.out))) : w.heap.size ≤ gb249)); have n3_ := Aside0.mk ((by rw [hg]; exact (below_size (by repeat (first | (with_reducible first | exact HB.out | apply below_alloc | apply pw_below_drewN | apply below_drew1) | exact HB.out))) : w.heap.size ≤ gb249)); clear HB; have HB := n0_; have BK249 := n1_; have GW249 := n2_; have GE249 := n3_; clear n0_ n1_ n2_ n3_; clear hb hbox hg) | ((with_reducible refine gate_callee (f := 36) rfl ?_); refine goesL_ (some 12) rfl rfl Try.func36 (by kernel_rfl) rfl #[.slice A1 l1.length c1] rfl (by (try simp only [List.map_toArray, List.map_cons, List.map_nil]); first | done | rfl | (simp only [List.length_drop, List.length_take]; rfl)) ?_; (with_reducible refine (gramaryebase_Ints.calls _ _ l1 t250 _ ?side1 ?side2 A4.out).mono ?_); (case side1 => repeat (first | exact (Kd.C_below HR1.out HB.out) | (with_reducible refine Kd.C_alloc ?_ _) | (with_reducible refine Kd.C_drewN ?_ _) | (with_reducible refine Kd.C_drew ?_))); (case side2 => exact HC1.out); rintro e w6 ⟨v251, rfl, ho0, hb⟩; refine ⟨_, rfl, ?_⟩; have n0_ := Aside0.mk (Kd.R_lower ho0 (below_size (by repeat (first | (with_reducible first | exact HB.out | apply below_alloc | apply pw_below_drewN | apply below_drew1 | refine below_set ?_ GE249.out) | exact HB.out)))); have n1_ := Aside0.mk (blk_below (g := gb249) (o := .cells #[.int .i64 a0_0, .int .i64 a0_1, .slice A0_2 l0_2.length c0_2, .slice A0_3 l0_3.length c0_3] 25 (0, 0)) (by (with_reducible repeat (first | refine blk_drewN ?_ _ | refine blk_drew ?_ | refine blk_alloc ?_ _)); exact BK249.out) hb); have n2_ := Aside0.mk (below_step (by repeat (first | (with_reducible first | exact HB.out | apply below_alloc | apply pw_below_drewN | apply below_drew1 | refine below_set ?_ GE249.out) | exact HB.out)) hb); clear BK249; clear HB; have HO252 := n0_; have BK249 := n1_; have HB := n2_; clear n0_ n1_ n2_; (try clear hb); (try clear hb2); (try clear hk); (try clear hi); (try clear ho0)))
  (try (with_reducible (show Code.wp _ _ _ (Act.put _ _ _) _); go_simp))
  go_loopg [7, 8] k (fun kq v7 v8 w' => ∃ (x7_1 : List Int) (x8_1 : Int), v8 = .int .i64 x8_1 ∧ Aside0 (gramaryeref11_from.l0 kq a2 x7_1 x8_1 a0_0 a0_1 l0_2 l0_3 = some r) ∧ Aside0 (kq ≤ k) ∧ Aside0 (Kd.R (Kd.int .i64) 3 w' w.heap.size (fun _ => True) v7 x7_1) ∧ Aside0 (w'.heap[gb249]? = some (.cells #[.int .i64 a0_0, .int .i64 a0_1, (.slice A0_2 l0_2.length c0_2), (.slice A0_3 l0_3.length c0_3)] 25 (0, 0))) ∧ Aside0 (Below w.heap.size w w'))
  case atStart => exact ⟨(t250), (0), (by first | rfl | (simp; done) | (simp [*]; done)), H', ⟨Nat.le_refl _⟩, ⟨by (with_reducible repeat (first | apply Kd.R_alloc | apply Kd.R_drewN | apply Kd.R_drew)); exact HO252.out⟩, ⟨by (with_reducible repeat (first | refine blk_drewN ?_ _ | refine blk_drew ?_ | refine blk_alloc ?_ _)); exact BK249.out⟩, ⟨by repeat (first | (with_reducible first | exact HB.out | apply below_alloc | apply pw_below_drewN | apply below_drew1 | refine below_set ?_ GE249.out) | exact HB.out)⟩⟩
  case round =>
    clear H'
    try clear c1
    try clear p2
    try clear c3
    try clear c5
    obtain ⟨x7_1, x8_1, rfl, HA, HK1, HO_7, BK249, HB⟩ := hrel
    cases gk with
    | zero => exact absurd HA.out (by simp [gramaryeref11_from.l0])
    | succ k1 =>
      have H := HA.out
      clear HA
      simp only [gramaryeref11_from.l0] at H
      by_cases c7 : x8_1 < (x7_1.length : Int)
      · rw [if_pos c7] at H
        have c7b0 : decide (x8_1 < (x7_1.length : Int)) = true := decide_eq_true c7
        clear c7
        by_cases c8 : 0 ≤ x8_1
        · rw [if_pos c8] at H
          have c8b0 : decide (0 ≤ x8_1) = true := decide_eq_true c8
          clear c8
          replace H := Option.bind_eq_some_iff.mp H
          obtain ⟨t254, A90, H⟩ := H
          replace H : (gramaryeref11_from.l1 k1 a2 x7_1 x8_1 t254 0 a0_0 a0_1 l0_2 l0_3) = some r := H
          have A9 := Aside0.mk A90
          clear A90
          have H' := Aside0.mk H
          clear H
          obtain ⟨Ao10, co10, eo10⟩ := Kd.R_slice HO_7.out
          subst eo10
          try go_wp2
          have n0_ := Aside0.mk (Kd.R_drew HO_7.out)
          have n1_ := Aside0.mk (blk_drew BK249.out)
          have n2_ := Aside0.mk (below_drew1 HB.out)
          clear HO_7
          clear BK249
          clear HB
          have HO_7 := n0_
          have BK249 := n1_
          have HB := n2_
          clear n0_ n1_ n2_
          have p253 : 0 ≤ (x8_1 : Int) := of_decide_eq_true (by first | (with_reducible assumption) | assumption)
          have q253 : x8_1 < (x7_1.length : Int) := of_decide_eq_true (by first | (with_reducible assumption) | assumption)
          obtain ⟨ad253, e253, hx253_0⟩ := Kd.at_int (Kd.R_reads' HO_7.out).2.2 x8_1 p253 q253
          cases e253
          replace p253 := eq_true p253
          replace q253 := eq_true q253
          refine start_ (n := 8) (S := fun w' => w'.cell? ⟨gb249, 0, none⟩ = some (.int .i64 a0_0) ∧ w'.cell? ⟨gb249, 1, none⟩ = some (.int .i64 a0_1) ∧ w'.cell? ⟨gb249, 2, none⟩ = some (.slice A0_2 l0_2.length c0_2) ∧ w'.cell? ⟨gb249, 3, none⟩ = some (.slice A0_3 l0_3.length c0_3) ∧ w'.cell? (ad253.add (x8_1).toNat) = some (.int .i64 (rd x7_1 x8_1))) (ds := []) #[false, false, false, false, false, false, false, false] (by kernel_rfl) rfl rfl ⟨(blk_cell BK249.out 0).trans rfl, (blk_cell BK249.out 1).trans rfl, (blk_cell BK249.out 2).trans rfl, (blk_cell BK249.out 3).trans rfl, hx253_0⟩ (fun hHeld => ?_); refine with_tabW gramaryeref11_from.tab5 gramaryeref11_from.bits5 (fun HT_ HW_ => ?_)
          generalize wr.drew = w11 at HO_7 BK249 HB hx253_0 hHeld ⊢
          refine pure_ (i := 1) (N := some 20) (v := ?_) (a' := ?_) #[false, true, false, false, false, false, false, false] rfl rfl (any_of HT_.out (by kernel_rfl)) (fun _ _ _ h => h) (Or.inl ⟨by rfl, ?_⟩) ?_ ?_
          rotate_left
          · intro w'
            go_simp
            with_reducible rfl
          rotate_left
          · simp only [Act.put, List.setIfInBounds_toArray, List.set_cons_zero, List.set_cons_succ, i64_w, i32_w]
            rfl
          refine pure_ (i := 2) (N := some 21) (v := ?_) (a' := ?_) #[false, true, true, false, false, false, false, false] rfl rfl (any_of HT_.out (by kernel_rfl)) (fun _ _ _ h => h) (Or.inl ⟨by rfl, ?_⟩) ?_ ?_
          rotate_left
          · intro w'
            go_simp
            with_reducible rfl
          rotate_left
          · simp only [Act.put, List.setIfInBounds_toArray, List.set_cons_zero, List.set_cons_succ, i64_w, i32_w]
            rfl
          refine pure_ (i := 3) (N := some 22) (v := ?_) (a' := ?_) #[false, true, true, true, false, false, false, false] rfl rfl (any_of HT_.out (by kernel_rfl)) (fun _ _ _ h => h) (Or.inl ⟨by rfl, ?_⟩) ?_ ?_
          rotate_left
          · intro w'
            go_simp
            with_reducible rfl
          rotate_left
          · simp only [Act.put, List.setIfInBounds_toArray, List.set_cons_zero, List.set_cons_succ, i64_w, i32_w]
            rfl
          refine pure_ (i := 5) (N := some 24) (v := ?_) (a' := ?_) #[false, true, true, true, false, true, false, false] rfl rfl (any_of HT_.out (by kernel_rfl)) (fun _ _ _ h => h) (Or.inl ⟨by rfl, ?_⟩) ?_ ?_
          rotate_left
          · intro w'
            go_simp
            with_reducible rfl
          rotate_left
          · simp only [Act.put, List.setIfInBounds_toArray, List.set_cons_zero, List.set_cons_succ, i64_w, i32_w]
            rfl
          refine take_ (i := 0) (N := some 19) (v := ?_) (a' := ?_) #[true, true, true, true, false, true, false, false] rfl rfl (take_ofW HT_.out HW_.out (by kernel_rfl)) (fun _ _ _ h => h) (Or.inl ⟨by rfl, ?_⟩) hHeld ?_ ?_
          rotate_left
          · rintro w' ⟨s0, s1, s2, s3, s4⟩
            go_simp
            with_reducible rfl
          rotate_left
          · simp only [Act.put, List.setIfInBounds_toArray, List.set_cons_zero, List.set_cons_succ, i64_w, i32_w]
            rfl
          refine take_ (i := 4) (N := some 23) (v := ?_) (a' := ?_) #[true, true, true, true, true, true, false, false] rfl rfl (take_ofW HT_.out HW_.out (by kernel_rfl)) (fun _ _ _ h => h) (Or.inl ⟨by rfl, ?_⟩) hHeld ?_ ?_
          rotate_left
          · rintro w' ⟨s0, s1, s2, s3, s4⟩
            go_simp
            with_reducible rfl
          rotate_left
          · simp only [Act.put, List.setIfInBounds_toArray, List.set_cons_zero, List.set_cons_succ, i64_w, i32_w]
            rfl
          refine one_ (i := 6) (N := some 25) #[true, true, true, true, true, true, true, false] rfl rfl (one_of HT_.out (by kernel_rfl)) (by decide) (fun K hK => ?_)
          refine goes_ Try.func56 (by kernel_rfl) rfl #[.agg #[.int .i64 a0_0, .int .i64 a0_1, .slice A0_2 l0_2.length c0_2, .slice A0_3 l0_3.length c0_3], .int .i64 (rd x7_1 x8_1), .bool a2] (by rfl) rfl rfl (by (try simp only [List.map_toArray, List.map_cons, List.map_nil]); first | done | rfl | (simp only [List.length_drop, List.length_take]; rfl)) ?_
          with_reducible refine (gramaryeref11_Next.calls k1 a0_0 a0_1 _ _ l0_2 _ _ l0_3 (rd x7_1 x8_1) a2 t254 _ ?side1 ?side2 ?side3 ?side4 A9.out).mono ?_
          (case side1 => repeat (first | exact (Kd.C_below HR0_2.out HB.out) | (with_reducible refine Kd.C_alloc ?_ _) | (with_reducible refine Kd.C_drewN ?_ _) | (with_reducible refine Kd.C_drew ?_)))
          (case side2 => exact HC0_2.out)
          (case side3 => repeat (first | exact (Kd.C_below HR0_3.out HB.out) | (with_reducible refine Kd.C_alloc ?_ _) | (with_reducible refine Kd.C_drewN ?_ _) | (with_reducible refine Kd.C_drew ?_)))
          (case side4 => exact HC0_3.out)
          rintro e w12 ⟨v255, rfl, ho0, hb⟩
          have HS4_ := (hb.cell (World.block_lt_of_cell? _ _ (hHeld.2.2.2.2))).trans (hHeld.2.2.2.2)
          refine ⟨_, rfl, ?_⟩
          have n0_ := Aside0.mk (Kd.R_elder' (by (with_reducible repeat (first | apply Kd.R_alloc | apply Kd.R_drewN | apply Kd.R_drew)); exact HO_7.out) (Kd.R_base ho0) hb)
          have n1_ := Aside0.mk (Kd.R_lower (Kd.R_new' ho0 (Kd.R_lt (by (with_reducible repeat (first | apply Kd.R_alloc | apply Kd.R_drewN | apply Kd.R_drew)); exact HO_7.out))) (below_size (by repeat (first | (with_reducible first | exact HB.out | apply below_alloc | apply pw_below_drewN | apply below_drew1 | refine below_set ?_ GE249.out) | exact HB.out))))
          have n2_ := Aside0.mk (blk_below (g := gb249) (o := .cells #[.int .i64 a0_0, .int .i64 a0_1, .slice A0_2 l0_2.length c0_2, .slice A0_3 l0_3.length c0_3] 25 (0, 0)) (by (with_reducible repeat (first | refine blk_drewN ?_ _ | refine blk_drew ?_ | refine blk_alloc ?_ _)); exact BK249.out) hb)
          have n3_ := Aside0.mk (below_step (by repeat (first | (with_reducible first | exact HB.out | apply below_alloc | apply pw_below_drewN | apply below_drew1 | refine below_set ?_ GE249.out) | exact HB.out)) hb)
          clear HO_7
          clear BK249
          clear HB
          have HO_7 := n0_
          have HO256 := n1_
          have BK249 := n2_
          have HB := n3_
          clear n0_ n1_ n2_ n3_
          (try clear hb)
          (try clear hb2)
          (try clear hk)
          (try clear hi)
          (try clear ho0)
          refine hK.out _ _ ⟨(blk_cell BK249.out 0).trans rfl, (blk_cell BK249.out 1).trans rfl, (blk_cell BK249.out 2).trans rfl, (blk_cell BK249.out 3).trans rfl, HS4_⟩ (fun hHeld => ?_)
          clear hK K
          refine norm_ (a' := ?_) ?_ ?_
          rotate_left
          · show Act.put _ (some 25) _ = _
            simp only [Act.put, List.setIfInBounds_toArray, List.set_cons_zero, List.set_cons_succ, i64_w, i32_w]
            rfl
          refine pure_ (i := 7) (N := some 9) (v := ?_) (a' := ?_) #[true, true, true, true, true, true, true, true] rfl rfl (any_of HT_.out (by kernel_rfl)) (fun _ _ _ h => h) (Or.inl ⟨by rfl, ?_⟩) ?_ ?_
          rotate_left
          · intro w'
            go_simp
            with_reducible rfl
          rotate_left
          · simp only [Act.put, List.setIfInBounds_toArray, List.set_cons_zero, List.set_cons_succ, i64_w, i32_w]
            rfl
          refine done_ (done_of HT_.out (by kernel_rfl)) ?_
          try go_wp2
          (try (with_reducible (show Code.wp _ _ _ (Act.put _ _ _) _); go_simp))
          go_loopg [7, 10] k1 (fun kq v7 v10 w' => ∃ (x7_2 : List Int) (x10_2 : Int), v10 = .int .i64 x10_2 ∧ Aside0 (gramaryeref11_from.l1 kq a2 x7_2 x8_1 t254 x10_2 a0_0 a0_1 l0_2 l0_3 = some r) ∧ Aside0 (kq ≤ k1) ∧ Aside0 (Kd.R (Kd.int .i64) 3 w' w.heap.size (fun k_ => some k_ ≠ (v255 : Value).ownBlock) v7 x7_2) ∧ Aside0 (Kd.R (Kd.int .i64) 3 w' w.heap.size (fun k_ => some k_ ≠ (v7 : Value).ownBlock) v255 t254) ∧ Aside0 (w'.heap[gb249]? = some (.cells #[.int .i64 a0_0, .int .i64 a0_1, (.slice A0_2 l0_2.length c0_2), (.slice A0_3 l0_3.length c0_3)] 25 (0, 0))) ∧ Aside0 (Below w.heap.size w w'))
          case atStart => exact ⟨(x7_1), (0), (by first | rfl | (simp; done) | (simp [*]; done)), H', ⟨Nat.le_refl _⟩, ⟨by (with_reducible repeat (first | apply Kd.R_alloc | apply Kd.R_drewN | apply Kd.R_drew)); exact Kd.R_mono HO_7.out (fun _ hk => hk.2)⟩, ⟨by (with_reducible repeat (first | apply Kd.R_alloc | apply Kd.R_drewN | apply Kd.R_drew)); exact Kd.R_mono HO256.out (fun _ hk => hk.2)⟩, ⟨by (with_reducible repeat (first | refine blk_drewN ?_ _ | refine blk_drew ?_ | refine blk_alloc ?_ _)); exact BK249.out⟩, ⟨by repeat (first | (with_reducible first | exact HB.out | apply below_alloc | apply pw_below_drewN | apply below_drew1 | refine below_set ?_ GE249.out) | exact HB.out)⟩⟩
          case round =>
            clear H'
            try clear c1
            try clear p2
            try clear q2
            try clear hx2
            try clear c3
            try clear c5
            try clear c7
            try clear c7b0
            try clear c8
            try clear c8b0
            try clear hx253_0
            try clear p2
            try clear p253
            try clear q253
            obtain ⟨x7_2, x10_2, rfl, HA, HK2, HO_7, HO_9, BK249, HB⟩ := hrel
            cases gk with
            | zero => exact absurd HA.out (by simp [gramaryeref11_from.l1])
            | succ k2 =>
              have H := HA.out
              clear HA
              simp only [gramaryeref11_from.l1] at H
              by_cases c13 : x10_2 < (t254.length : Int)
              · rw [if_pos c13] at H
                have c13b0 : decide (x10_2 < (t254.length : Int)) = true := decide_eq_true c13
                clear c13
                by_cases c14 : 0 ≤ x10_2
                · rw [if_pos c14] at H
                  have c14b0 : decide (0 ≤ x10_2) = true := decide_eq_true c14
                  clear c14
                  replace H := Option.bind_eq_some_iff.mp H
                  obtain ⟨t258, A150, H⟩ := H
                  replace H : (if t258 = true then (gramaryeref11_from.l1 k2 a2 x7_2 x8_1 t254 (wrap64 (x10_2 + 1)) a0_0 a0_1 l0_2 l0_3) else (if x7_2.length < 17592186044416 then (gramaryeref11_from.l1 k2 a2 (x7_2 ++ [rd t254 x10_2]) x8_1 t254 (wrap64 (x10_2 + 1)) a0_0 a0_1 l0_2 l0_3) else (none))) = some r := H
                  have A15 := Aside0.mk A150
                  clear A150
                  by_cases c16 : t258 = true
                  · subst c16
                    have H1 : (gramaryeref11_from.l1 k2 a2 x7_2 x8_1 t254 (wrap64 (x10_2 + 1)) a0_0 a0_1 l0_2 l0_3) = some r := by rw [if_pos rfl] at H; exact H
                    clear H
                    have H := H1
                    clear H1
                    have H' := Aside0.mk H
                    clear H
                    obtain ⟨Ao17, co17, eo17⟩ := Kd.R_slice HO_9.out
                    subst eo17
                    have p257 : 0 ≤ (x10_2 : Int) := of_decide_eq_true (by first | (with_reducible assumption) | assumption)
                    have q257 : x10_2 < (t254.length : Int) := of_decide_eq_true (by first | (with_reducible assumption) | assumption)
                    obtain ⟨ad257, e257, hx257_0⟩ := Kd.at_int (Kd.R_reads' HO_9.out).2.2 x10_2 p257 q257
                    cases e257
                    replace p257 := eq_true p257
                    replace q257 := eq_true q257
                    obtain ⟨Ao18, co18, eo18⟩ := Kd.R_slice HO_7.out
                    subst eo18
                    go_wp2_with (first | ((with_reducible refine gate_callee (f := 54) rfl ?_); refine goesL_ (some 37) rfl rfl Try.func54 (by kernel_rfl) rfl #[.slice Ao18 x7_2.length co18, .int .i64 (rd t254 x10_2)] rfl (by (try simp only [List.map_toArray, List.map_cons, List.map_nil]); first | done | rfl | (simp only [List.length_drop, List.length_take]; rfl)) ?_; (with_reducible refine (gramaryebase_HasInt.calls k2 _ _ x7_2 (rd t254 x10_2) true _ ?side1 ?side2 A15.out).mono ?_); (case side1 => repeat (first | exact (Kd.R_reads' HO_7.out).2.2 | (with_reducible refine Kd.C_alloc ?_ _) | (with_reducible refine Kd.C_drewN ?_ _) | (with_reducible refine Kd.C_drew ?_))); (case side2 => exact (Kd.R_reads' HO_7.out).2.1); rintro e w' ⟨rfl, ⟨nd, rfl⟩⟩; refine ⟨_, rfl, ?_⟩))
                    go_roundg k2
                    case measure => have := HK1.out; have := HK2.out; omega
                    case rel => exact ⟨(x7_2), (wrap64 (x10_2 + 1)), (by first | rfl | (simp; done) | (simp [*]; done)), H', ⟨by have := HK1.out; have := HK2.out; omega⟩, ⟨by (with_reducible repeat (first | apply Kd.R_alloc | apply Kd.R_drewN | apply Kd.R_drew)); exact HO_7.out⟩, ⟨by (with_reducible repeat (first | apply Kd.R_alloc | apply Kd.R_drewN | apply Kd.R_drew)); exact HO_9.out⟩, ⟨by (with_reducible repeat (first | refine blk_drewN ?_ _ | refine blk_drew ?_ | refine blk_alloc ?_ _)); exact BK249.out⟩, ⟨by repeat (first | (with_reducible first | exact HB.out | apply below_alloc | apply pw_below_drewN | apply below_drew1 | refine below_set ?_ GE249.out) | exact HB.out)⟩⟩
                  · replace c16 := Bool.eq_false_iff.mpr c16
                    subst c16
                    have H1 : (if x7_2.length < 17592186044416 then (gramaryeref11_from.l1 k2 a2 (x7_2 ++ [rd t254 x10_2]) x8_1 t254 (wrap64 (x10_2 + 1)) a0_0 a0_1 l0_2 l0_3) else (none)) = some r := by rw [if_neg (show ¬ (false = true) by decide)] at H; exact H
                    clear H
                    have H := H1
                    clear H1
                    by_cases c19 : x7_2.length < 17592186044416
                    · rw [if_pos c19] at H
                      have LMc19 := Aside0.mk c19
                      clear c19
                      obtain ⟨y260, hy260⟩ : ∃ y_ : List Int, y_ = (x7_2 ++ [rd t254 x10_2]) := ⟨_, rfl⟩
                      replace H : (gramaryeref11_from.l1 k2 a2 y260 x8_1 t254 (wrap64 (x10_2 + 1)) a0_0 a0_1 l0_2 l0_3) = some r := by first | (rw [hy260]; with_reducible exact H) | (have H2_ := (Option.bind_some _ _).symm.trans H; rw [hy260]; with_reducible exact H2_) | (have H2_ := (Option.bind_some _ _).symm.trans H; with_reducible exact H2_) | with_reducible exact H | (rw [hy260]; exact H) | exact H
                      have Ny260 := Aside0.mk hy260
                      clear hy260
                      have H' := Aside0.mk H
                      clear H
                      obtain ⟨Ao20, co20, eo20⟩ := Kd.R_slice HO_9.out
                      subst eo20
                      have p257 : 0 ≤ (x10_2 : Int) := of_decide_eq_true (by first | (with_reducible assumption) | assumption)
                      have q257 : x10_2 < (t254.length : Int) := of_decide_eq_true (by first | (with_reducible assumption) | assumption)
                      obtain ⟨ad257, e257, hx257_0⟩ := Kd.at_int (Kd.R_reads' HO_9.out).2.2 x10_2 p257 q257
                      cases e257
                      replace p257 := eq_true p257
                      replace q257 := eq_true q257
                      obtain ⟨Ao21, co21, eo21⟩ := Kd.R_slice HO_7.out
                      subst eo21
                      go_wp2_with (first | ((with_reducible refine gate_callee (f := 54) rfl ?_); refine goesL_ (some 37) rfl rfl Try.func54 (by kernel_rfl) rfl #[.slice Ao21 x7_2.length co21, .int .i64 (rd t254 x10_2)] rfl (by (try simp only [List.map_toArray, List.map_cons, List.map_nil]); first | done | rfl | (simp only [List.length_drop, List.length_take]; rfl)) ?_; (with_reducible refine (gramaryebase_HasInt.calls k2 _ _ x7_2 (rd t254 x10_2) false _ ?side1 ?side2 A15.out).mono ?_); (case side1 => repeat (first | exact (Kd.R_reads' HO_7.out).2.2 | (with_reducible refine Kd.C_alloc ?_ _) | (with_reducible refine Kd.C_drewN ?_ _) | (with_reducible refine Kd.C_drew ?_))); (case side2 => exact (Kd.R_reads' HO_7.out).2.1); rintro e w' ⟨rfl, ⟨nd, rfl⟩⟩; refine ⟨_, rfl, ?_⟩; have p259 : 0 ≤ (x10_2 : Int) := of_decide_eq_true (by first | (with_reducible assumption) | assumption); have q259 : x10_2 < (t254.length : Int) := of_decide_eq_true (by first | (with_reducible assumption) | assumption); obtain ⟨ad259, e259, hx259_0⟩ := Kd.at_int (Kd.R_reads' HO_9.out).2.2 x10_2 p259 q259; obtain rfl : ad257 = ad259 := (by injection e259); replace p259 := eq_true p259; replace q259 := eq_true q259) | ((with_reducible refine gate_builtin (b := .append) (xs := #[.tmp 39, .tmp 44]) rfl ?_); at_builtin; refine Kd.R_append (Kd.int .i64) (w0 := w) w.heap.size rfl (.tmp 39) (.tmp 44) 22 3 (.int .i64 0) 8 rfl Try.underlying22 info3 rfl (by decide) (by omega) (.slice Ao21 x7_2.length co21) x7_2 (rd t254 x10_2) [.int .i64 (rd t254 x10_2)] (fun k_ => some k_ ≠ (.slice (some ad257) t254.length co20 : Value).ownBlock) (fun _ => False) rfl rfl ?aP (fun _ hk => hk.elim) ?aF ?aO ?aB ?aS ?aL ?_; (case aP => exact rfl); (case aB => exact (by repeat (first | (with_reducible first | exact HB.out | apply below_alloc | apply pw_below_drewN | apply below_drew1 | refine below_set ?_ GE249.out) | exact HB.out))); (case aF => exact (fun k_ hk => Kd.fresh' (Kd.R_lt (by (with_reducible repeat (first | apply Kd.R_alloc | apply Kd.R_drewN | apply Kd.R_drew)); exact HO_9.out)) k_ hk)); (case aO => exact (by (with_reducible repeat (first | apply Kd.R_alloc | apply Kd.R_drewN | apply Kd.R_drew)); exact HO_7.out)); (case aS => exact (below_size (by repeat (first | (with_reducible first | exact HB.out | apply below_alloc | apply pw_below_drewN | apply below_drew1 | refine below_set ?_ GE249.out) | exact HB.out)))); (case aL => have := LMc19.out; omega); intro v261 w22 ho hb hg hat; rw [← Ny260.out] at ho; have n0_ := Aside0.mk (Kd.R_after (ok := (fun _ => True)) (by (with_reducible repeat (first | apply Kd.R_alloc | apply Kd.R_drewN | apply Kd.R_drew)); exact Kd.R_mono HO_9.out (fun _ hk => ⟨trivial, hk⟩)) hg hat); have n1_ := Aside0.mk (blk_grown (g := gb249) (o := .cells #[.int .i64 a0_0, .int .i64 a0_1, .slice A0_2 l0_2.length c0_2, .slice A0_3 l0_3.length c0_3] 25 (0, 0)) (by (with_reducible repeat (first | refine blk_drewN ?_ _ | refine blk_drew ?_ | refine blk_alloc ?_ _)); exact BK249.out) hg (Kd.R_ne HO_7.out BK249.out (by decide))); have n2_ := Aside0.mk (hb); have n3_ := Aside0.mk (ho); clear HO_9; clear BK249; clear HB; clear HO_7; have HO_9 := n0_; have BK249 := n1_; have HB := n2_; have HO262 := n3_; clear n0_ n1_ n2_ n3_; clear ho hb hg hat))
                      go_roundg k2
                      case measure => have := HK1.out; have := HK2.out; omega
                      case rel => exact ⟨(y260), (wrap64 (x10_2 + 1)), (by first | rfl | (simp; done) | (simp [*]; done)), H', ⟨by have := HK1.out; have := HK2.out; omega⟩, ⟨by (with_reducible repeat (first | apply Kd.R_alloc | apply Kd.R_drewN | apply Kd.R_drew)); exact HO262.out⟩, ⟨by (with_reducible repeat (first | apply Kd.R_alloc | apply Kd.R_drewN | apply Kd.R_drew)); exact Kd.R_mono HO_9.out (fun _ hk => hk.2)⟩, ⟨by (with_reducible repeat (first | refine blk_drewN ?_ _ | refine blk_drew ?_ | refine blk_alloc ?_ _)); exact BK249.out⟩, ⟨by repeat (first | (with_reducible first | exact HB.out | apply below_alloc | apply pw_below_drewN | apply below_drew1 | refine below_set ?_ GE249.out) | exact HB.out)⟩⟩
                    · rw [if_neg c19] at H
                      exact absurd H (by simp)
                · rw [if_neg c14] at H
                  exact absurd H (by simp)
              · rw [if_neg c13] at H
                have c13b0 : decide (x10_2 < (t254.length : Int)) = false := decide_eq_false c13
                clear c13
                have H' := Aside0.mk H
                clear H
                obtain ⟨Ao23, co23, eo23⟩ := Kd.R_slice HO_9.out
                subst eo23
                go_wp2
                go_roundg k2
                case measure => have := HK1.out; have := HK2.out; omega
                case rel => exact ⟨(x7_2), (wrap64 (x8_1 + 1)), (by first | rfl | (simp; done) | (simp [*]; done)), H', ⟨by have := HK1.out; have := HK2.out; omega⟩, ⟨by (with_reducible repeat (first | apply Kd.R_alloc | apply Kd.R_drewN | apply Kd.R_drew)); exact Kd.R_mono HO_7.out (fun _ hk => trivial)⟩, ⟨by (with_reducible repeat (first | refine blk_drewN ?_ _ | refine blk_drew ?_ | refine blk_alloc ?_ _)); exact BK249.out⟩, ⟨by repeat (first | (with_reducible first | exact HB.out | apply below_alloc | apply pw_below_drewN | apply below_drew1 | refine below_set ?_ GE249.out) | exact HB.out)⟩⟩
        · rw [if_neg c8] at H
          exact absurd H (by simp)
      · rw [if_neg c7] at H
        have c7b0 : decide (x8_1 < (x7_1.length : Int)) = false := decide_eq_false c7
        clear c7
        obtain rfl := Option.some.inj H
        obtain ⟨Ao24, co24, eo24⟩ := Kd.R_slice HO_7.out
        subst eo24
        go_wp2
        go_ret
        exact ⟨_, by first | rfl | (simp [errW_none, errW_some] <;> rfl) | (simp [*, errW_none, errW_some] <;> rfl), by (with_reducible repeat (first | apply Kd.R_alloc | apply Kd.R_drewN | apply Kd.R_drew)); exact HO_7.out, by repeat (first | (with_reducible first | exact HB.out | apply below_alloc | apply pw_below_drewN | apply below_drew1 | refine below_set ?_ GE249.out) | exact HB.out)⟩
def gramaryeref11_Reached.l0 : Nat → List Int → List Bool → Int → Int → Int → List Int → List (S51) → Option (List Bool)
  | 0, _, _, _, _, _, _, _ => none
  | k + 1, x3, x4, x5, x264000, x264001, x264002, x264003 => if x5 < (x264002.length : Int) then ((gramaryebase_HasInt.f k x3 x5).bind fun t273 => (if x4.length < 140737488355328 then (gramaryeref11_Reached.l0 k x3 (x4 ++ [t273]) (wrap64 (x5 + 1)) x264000 x264001 x264002 x264003) else (none))) else (some x4)
def gramaryeref11_Reached.f (k : Nat) (a0_0 : Int) (a0_1 : Int) (l0_2 : List Int) (l0_3 : List (S51)) : Option (List Bool) := (gramaryeref11_from.f k a0_0 a0_1 l0_2 l0_3 (([0] : List Int)) true).bind fun t267 => (gramaryeref11_Reached.l0 k t267 (([] : List Bool)) 0 a0_0 a0_1 l0_2 l0_3)
set_option maxHeartbeats 8000000 in
set_option maxRecDepth 100000 in
theorem gramaryeref11_Reached.calls (k : Nat) (a0_0 : Int) (a0_1 : Int) (A0_2 : Option Addr) (c0_2 : Nat) (l0_2 : List Int) (A0_3 : Option Addr) (c0_3 : Nat) (l0_3 : List (S51)) (r : List Bool) (w : World) (hr0_2 : Kd.C (Kd.int .i64) w A0_2 l0_2.length l0_2) (hc0_2 : l0_2.length ≤ c0_2) (hr0_3 : Kd.C k51 w A0_3 l0_3.length l0_3) (hc0_3 : l0_3.length ≤ c0_3) (h : gramaryeref11_Reached.f k a0_0 a0_1 l0_2 l0_3 = some r) :
    Calls Try.prog 34 #[.agg #[.int .i64 a0_0, .int .i64 a0_1, .slice A0_2 l0_2.length c0_2, .slice A0_3 l0_3.length c0_3]] w fun e w' => ∃ v0_ : Value, e = .returned (v0_) ∧ Kd.R Kd.bool 4 w' w.heap.size (fun _ => True) v0_ r ∧ Below w.heap.size w w' := by
  have hu25 := Try.underlying25
  have HR0_2 := Aside0.mk hr0_2
  have HC0_2 := Aside0.mk hc0_2
  clear hr0_2 hc0_2
  have HR0_3 := Aside0.mk hr0_3
  have HC0_3 := Aside0.mk hc0_3
  clear hr0_3 hc0_3
  have HB := Aside0.mk (Below.refl w.heap.size w)
  have H : ((gramaryeref11_from.f k a0_0 a0_1 l0_2 l0_3 (([0] : List Int)) true).bind fun t267 => (gramaryeref11_Reached.l0 k t267 (([] : List Bool)) 0 a0_0 a0_1 l0_2 l0_3)) = some r := h
  clear h
  obtain ⟨y264, hy264⟩ : ∃ y_ : List Int, y_ = (([0] : List Int)) := ⟨_, rfl⟩
  replace H : ((gramaryeref11_from.f k a0_0 a0_1 l0_2 l0_3 y264 true).bind fun t267 => (gramaryeref11_Reached.l0 k t267 (([] : List Bool)) 0 a0_0 a0_1 l0_2 l0_3)) = some r := by first | (rw [hy264]; with_reducible exact H) | (have H2_ := (Option.bind_some _ _).symm.trans H; rw [hy264]; with_reducible exact H2_) | (have H2_ := (Option.bind_some _ _).symm.trans H; with_reducible exact H2_) | with_reducible exact H | (rw [hy264]; exact H) | exact H
  have Ny264 := Aside0.mk hy264
  clear hy264
  replace H := Option.bind_eq_some_iff.mp H
  obtain ⟨t267, A20, H⟩ := H
  replace H : (gramaryeref11_Reached.l0 k t267 (([] : List Bool)) 0 a0_0 a0_1 l0_2 l0_3) = some r := H
  have A2 := Aside0.mk A20
  clear A20
  obtain ⟨y270, hy270⟩ : ∃ y_ : List Bool, y_ = (([] : List Bool)) := ⟨_, rfl⟩
  replace H : (gramaryeref11_Reached.l0 k t267 y270 0 a0_0 a0_1 l0_2 l0_3) = some r := by first | (rw [hy270]; with_reducible exact H) | (have H2_ := (Option.bind_some _ _).symm.trans H; rw [hy270]; with_reducible exact H2_) | (have H2_ := (Option.bind_some _ _).symm.trans H; with_reducible exact H2_) | with_reducible exact H | (rw [hy270]; exact H) | exact H
  have Ny270 := Aside0.mk hy270
  clear hy270
  have H' := Aside0.mk H
  clear H
  go_enter Try.func34, Try.ntmps34
  go_wp2_with (first | ((with_reducible refine gate_dst (N := 1) rfl ?_); refine box_event ?hg (N := 1) ?hd (cs := #[.int .i64 a0_0, .int .i64 a0_1, .slice A0_2 l0_2.length c0_2, .slice A0_3 l0_3.length c0_3]) (t := 25) ?hr ?_; (case hd => rfl); (case hg => rfl); (case hr => first | (go_simp; done) | (go_simp; rfl)); intro gb263 hg w3 hbox hb; have n0_ := Aside0.mk (below_step (by repeat (first | (with_reducible first | exact HB.out | apply below_alloc | apply pw_below_drewN | apply below_drew1) | exact HB.out)) hb); have n1_ := Aside0.mk (hbox); have n2_ := Aside0.mk ((by rw [hg]; exact (below_size (by repeat (first | (with_reducible first | exact HB.out | apply below_alloc | apply pw_below_drewN | apply below_drew1) | exact HB.out))) : w.heap.size ≤ gb263)); have n3_ := Aside0.mk ((by rw [hg]; exact (below_size (by repeat (first | (with_reducible first | exact HB.out | apply below_alloc | apply pw_below_drewN | apply below_drew1) | exact HB.out))) : w.heap.size ≤ gb263)); clear HB; have HB := n0_; have BK263 := n1_; have GW263 := n2_; have GE263 := n3_; clear n0_ n1_ n2_ n3_; clear hb hbox hg; have hcz4_0 : w3.cell? ⟨gb263, 0, none⟩ = some (.int .i64 a0_0) := (blk_cell BK263.out 0).trans rfl; have hcz4_1 : w3.cell? ⟨gb263, 1, none⟩ = some (.int .i64 a0_1) := (blk_cell BK263.out 1).trans rfl; have hcz4_2 : w3.cell? ⟨gb263, 2, none⟩ = some (.slice A0_2 l0_2.length c0_2) := (blk_cell BK263.out 2).trans rfl; have hcz4_3 : w3.cell? ⟨gb263, 3, none⟩ = some (.slice A0_3 l0_3.length c0_3) := (blk_cell BK263.out 3).trans rfl; have hfz4_0 := blk_frozen BK263.out 0; have hfz4_1 := blk_frozen BK263.out 1; have hfz4_2 := blk_frozen BK263.out 2; have hfz4_3 := blk_frozen BK263.out 3) | ((with_reducible refine gate_dst (N := 7) rfl ?_); refine Kd.R_lit (Kd.int .i64) _ 3 ?hg (N := 7) ?hd (xs := ([0] : List Int)) (inner := [.int .i64 0]) (ok := fun _ => True) (okp := fun _ => True) ?hr ?hp (fun _ hk => hk) trivial (Below.refl _ _) (Nat.le_refl _) (by simp) ?_; (case hd => rfl); (case hg => rfl); (case hr => first | (go_simp; done) | (go_simp; rfl)); (case hp => exact (Reps.one (show Kd.M (Kd.int .i64) _ _ _ 0 [.int .i64 0] from rfl) (Reps.none _ _))); intro v265 w5 ho6 hb hg_ hnew_; clear hg_ hnew_; (first | rw [← Ny264.out] at ho6 | (simp only [Int.reduceToNat] at ho6; rw [← Ny264.out] at ho6)); have n0_ := Aside0.mk (Kd.R_lower ho6 (below_size (by repeat (first | (with_reducible first | exact HB.out | apply below_alloc | apply pw_below_drewN | apply below_drew1 | refine below_set ?_ GE263.out) | exact HB.out)))); have n1_ := Aside0.mk (blk_below (g := gb263) (o := .cells #[.int .i64 a0_0, .int .i64 a0_1, .slice A0_2 l0_2.length c0_2, .slice A0_3 l0_3.length c0_3] 25 (0, 0)) (by (with_reducible repeat (first | refine blk_drewN ?_ _ | refine blk_drew ?_ | refine blk_alloc ?_ _)); exact BK263.out) hb); have n2_ := Aside0.mk (below_step (by repeat (first | (with_reducible first | exact HB.out | apply below_alloc | apply pw_below_drewN | apply below_drew1 | refine below_set ?_ GE263.out) | exact HB.out)) hb); clear BK263; clear HB; have HO266 := n0_; have BK263 := n1_; have HB := n2_; clear n0_ n1_ n2_; clear hb ho6; obtain ⟨Ao7, co7, eo7⟩ := Kd.R_slice HO266.out; subst eo7) | ((with_reducible refine gate_callee (f := 55) rfl ?_); refine goesL_ (some 8) rfl rfl Try.func55 (by kernel_rfl) rfl #[.agg #[.int .i64 a0_0, .int .i64 a0_1, .slice A0_2 l0_2.length c0_2, .slice A0_3 l0_3.length c0_3], .slice Ao7 y264.length co7, .bool true] rfl (by (try simp only [List.map_toArray, List.map_cons, List.map_nil]); first | done | rfl | (simp only [List.length_drop, List.length_take]; rfl)) ?_; (with_reducible refine (gramaryeref11_from.calls k a0_0 a0_1 _ _ l0_2 _ _ l0_3 _ _ y264 true t267 _ ?side1 ?side2 ?side3 ?side4 ?side5 ?side6 A2.out).mono ?_); (case side1 => repeat (first | exact (Kd.C_below HR0_2.out HB.out) | (with_reducible refine Kd.C_alloc ?_ _) | (with_reducible refine Kd.C_drewN ?_ _) | (with_reducible refine Kd.C_drew ?_))); (case side2 => exact HC0_2.out); (case side3 => repeat (first | exact (Kd.C_below HR0_3.out HB.out) | (with_reducible refine Kd.C_alloc ?_ _) | (with_reducible refine Kd.C_drewN ?_ _) | (with_reducible refine Kd.C_drew ?_))); (case side4 => exact HC0_3.out); (case side5 => repeat (first | exact (Kd.R_reads' HO266.out).2.2 | (with_reducible refine Kd.C_alloc ?_ _) | (with_reducible refine Kd.C_drewN ?_ _) | (with_reducible refine Kd.C_drew ?_))); (case side6 => exact (Kd.R_reads' HO266.out).2.1); rintro e w8 ⟨v268, rfl, ho0, hb⟩; refine ⟨_, rfl, ?_⟩; have n0_ := Aside0.mk (Kd.R_elder' (by (with_reducible repeat (first | apply Kd.R_alloc | apply Kd.R_drewN | apply Kd.R_drew)); exact HO266.out) (Kd.R_base ho0) hb); have n1_ := Aside0.mk (Kd.R_lower (Kd.R_new' ho0 (Kd.R_lt (by (with_reducible repeat (first | apply Kd.R_alloc | apply Kd.R_drewN | apply Kd.R_drew)); exact HO266.out))) (below_size (by repeat (first | (with_reducible first | exact HB.out | apply below_alloc | apply pw_below_drewN | apply below_drew1 | refine below_set ?_ GE263.out) | exact HB.out)))); have n2_ := Aside0.mk (blk_below (g := gb263) (o := .cells #[.int .i64 a0_0, .int .i64 a0_1, .slice A0_2 l0_2.length c0_2, .slice A0_3 l0_3.length c0_3] 25 (0, 0)) (by (with_reducible repeat (first | refine blk_drewN ?_ _ | refine blk_drew ?_ | refine blk_alloc ?_ _)); exact BK263.out) hb); have n3_ := Aside0.mk (below_step (by repeat (first | (with_reducible first | exact HB.out | apply below_alloc | apply pw_below_drewN | apply below_drew1 | refine below_set ?_ GE263.out) | exact HB.out)) hb); clear HO266; clear BK263; clear HB; have HO266 := n0_; have HO269 := n1_; have BK263 := n2_; have HB := n3_; clear n0_ n1_ n2_ n3_; (try clear hb); (try clear hb2); (try clear hk); (try clear hi); (try clear ho0)) | ((with_reducible refine gate_dst (N := 9) rfl ?_); refine Kd.R_lit Kd.bool _ 4 ?hg (N := 9) ?hd (xs := ([] : List Bool)) (inner := []) (ok := fun _ => True) (okp := fun _ => True) ?hr ?hp (fun _ hk => hk) trivial (Below.refl _ _) (Nat.le_refl _) (by simp) ?_; (case hd => rfl); (case hg => rfl); (case hr => first | (go_simp; done) | (go_simp; rfl)); (case hp => exact (Reps.none _ _)); intro v271 w9 ho10 hb hg_ hnew_; clear hg_ hnew_; (first | rw [← Ny270.out] at ho10 | (simp only [Int.reduceToNat] at ho10; rw [← Ny270.out] at ho10)); have n0_ := Aside0.mk (Kd.R_below (by (with_reducible repeat (first | apply Kd.R_alloc | apply Kd.R_drewN | apply Kd.R_drew)); exact HO266.out) hb); have n1_ := Aside0.mk (Kd.R_below (by (with_reducible repeat (first | apply Kd.R_alloc | apply Kd.R_drewN | apply Kd.R_drew)); exact HO269.out) hb); have n2_ := Aside0.mk (Kd.R_lower ho10 (below_size (by repeat (first | (with_reducible first | exact HB.out | apply below_alloc | apply pw_below_drewN | apply below_drew1 | refine below_set ?_ GE263.out) | exact HB.out)))); have n3_ := Aside0.mk (blk_below (g := gb263) (o := .cells #[.int .i64 a0_0, .int .i64 a0_1, .slice A0_2 l0_2.length c0_2, .slice A0_3 l0_3.length c0_3] 25 (0, 0)) (by (with_reducible repeat (first | refine blk_drewN ?_ _ | refine blk_drew ?_ | refine blk_alloc ?_ _)); exact BK263.out) hb); have n4_ := Aside0.mk (below_step (by repeat (first | (with_reducible first | exact HB.out | apply below_alloc | apply pw_below_drewN | apply below_drew1 | refine below_set ?_ GE263.out) | exact HB.out)) hb); clear HO266; clear HO269; clear BK263; clear HB; have HO266 := n0_; have HO269 := n1_; have HO272 := n2_; have BK263 := n3_; have HB := n4_; clear n0_ n1_ n2_ n3_ n4_; clear hb ho10))
  (try (with_reducible (show Code.wp _ _ _ (Act.put _ _ _) _); go_simp))
  go_loopg [4, 5] k (fun kq v4 v5 w' => ∃ (x4_1 : List Bool) (x5_1 : Int), v5 = .int .i64 x5_1 ∧ Aside0 (gramaryeref11_Reached.l0 kq t267 x4_1 x5_1 a0_0 a0_1 l0_2 l0_3 = some r) ∧ Aside0 (kq ≤ k) ∧ Aside0 (Kd.R (Kd.int .i64) 3 w' w.heap.size (fun _ => True) v268 t267) ∧ Aside0 (Kd.R Kd.bool 4 w' w.heap.size (fun _ => True) v4 x4_1) ∧ Aside0 (w'.heap[gb263]? = some (.cells #[.int .i64 a0_0, .int .i64 a0_1, (.slice A0_2 l0_2.length c0_2), (.slice A0_3 l0_3.length c0_3)] 25 (0, 0))) ∧ Aside0 (Below w.heap.size w w'))
  case atStart => exact ⟨(y270), (0), (by first | rfl | (simp; done) | (simp [*]; done)), H', ⟨Nat.le_refl _⟩, ⟨by (with_reducible repeat (first | apply Kd.R_alloc | apply Kd.R_drewN | apply Kd.R_drew)); exact Kd.R_mono HO269.out (fun _ hk => trivial)⟩, ⟨by (with_reducible repeat (first | apply Kd.R_alloc | apply Kd.R_drewN | apply Kd.R_drew)); exact HO272.out⟩, ⟨by (with_reducible repeat (first | refine blk_drewN ?_ _ | refine blk_drew ?_ | refine blk_alloc ?_ _)); exact BK263.out⟩, ⟨by repeat (first | (with_reducible first | exact HB.out | apply below_alloc | apply pw_below_drewN | apply below_drew1 | refine below_set ?_ GE263.out) | exact HB.out)⟩⟩
  case round =>
    clear H'
    try clear p2
    try clear c3
    try clear c5
    try clear hcz4_0
    try clear hcz4_1
    try clear hcz4_2
    try clear hcz4_3
    try clear hfz4_0
    try clear hfz4_1
    try clear hfz4_2
    try clear hfz4_3
    obtain ⟨x4_1, x5_1, rfl, HA, HK1, HO_3, HO_4, BK263, HB⟩ := hrel
    cases gk with
    | zero => exact absurd HA.out (by simp [gramaryeref11_Reached.l0])
    | succ k1 =>
      have H := HA.out
      clear HA
      simp only [gramaryeref11_Reached.l0] at H
      by_cases c11 : x5_1 < (l0_2.length : Int)
      · rw [if_pos c11] at H
        have c11b0 : decide (x5_1 < (l0_2.length : Int)) = true := decide_eq_true c11
        clear c11
        replace H := Option.bind_eq_some_iff.mp H
        obtain ⟨t273, A120, H⟩ := H
        replace H : (if x4_1.length < 140737488355328 then (gramaryeref11_Reached.l0 k1 t267 (x4_1 ++ [t273]) (wrap64 (x5_1 + 1)) a0_0 a0_1 l0_2 l0_3) else (none)) = some r := H
        have A12 := Aside0.mk A120
        clear A120
        by_cases c13 : x4_1.length < 140737488355328
        · rw [if_pos c13] at H
          have LMc13 := Aside0.mk c13
          clear c13
          obtain ⟨y274, hy274⟩ : ∃ y_ : List Bool, y_ = (x4_1 ++ [t273]) := ⟨_, rfl⟩
          replace H : (gramaryeref11_Reached.l0 k1 t267 y274 (wrap64 (x5_1 + 1)) a0_0 a0_1 l0_2 l0_3) = some r := by first | (rw [hy274]; with_reducible exact H) | (have H2_ := (Option.bind_some _ _).symm.trans H; rw [hy274]; with_reducible exact H2_) | (have H2_ := (Option.bind_some _ _).symm.trans H; with_reducible exact H2_) | with_reducible exact H | (rw [hy274]; exact H) | exact H
          have Ny274 := Aside0.mk hy274
          clear hy274
          have H' := Aside0.mk H
          clear H
          have hcz14_0 : wr.cell? ⟨gb263, 0, none⟩ = some (.int .i64 a0_0) := (blk_cell BK263.out 0).trans rfl
          have hcz14_1 : wr.cell? ⟨gb263, 1, none⟩ = some (.int .i64 a0_1) := (blk_cell BK263.out 1).trans rfl
          have hcz14_2 : wr.cell? ⟨gb263, 2, none⟩ = some (.slice A0_2 l0_2.length c0_2) := (blk_cell BK263.out 2).trans rfl
          have hcz14_3 : wr.cell? ⟨gb263, 3, none⟩ = some (.slice A0_3 l0_3.length c0_3) := (blk_cell BK263.out 3).trans rfl
          have hfz14_0 := blk_frozen BK263.out 0
          have hfz14_1 := blk_frozen BK263.out 1
          have hfz14_2 := blk_frozen BK263.out 2
          have hfz14_3 := blk_frozen BK263.out 3
          obtain ⟨Ao15, co15, eo15⟩ := Kd.R_slice HO_3.out
          subst eo15
          go_wp2_with (first | ((with_reducible refine gate_callee (f := 54) rfl ?_); refine goesL_ (some 20) rfl rfl Try.func54 (by kernel_rfl) rfl #[.slice Ao15 t267.length co15, .int .i64 x5_1] rfl (by (try simp only [List.map_toArray, List.map_cons, List.map_nil]); first | done | rfl | (simp only [List.length_drop, List.length_take]; rfl)) ?_; (with_reducible refine (gramaryebase_HasInt.calls k1 _ _ t267 x5_1 t273 _ ?side1 ?side2 A12.out).mono ?_); (case side1 => repeat (first | exact (Kd.R_reads' HO_3.out).2.2 | (with_reducible refine Kd.C_alloc ?_ _) | (with_reducible refine Kd.C_drewN ?_ _) | (with_reducible refine Kd.C_drew ?_))); (case side2 => exact (Kd.R_reads' HO_3.out).2.1); rintro e w' ⟨rfl, ⟨nd, rfl⟩⟩; refine ⟨_, rfl, ?_⟩) | ((with_reducible refine gate_builtin (b := .append) (xs := #[.tmp 17, .tmp 21]) rfl ?_); at_builtin; refine Kd.R_append Kd.bool (w0 := w) w.heap.size rfl (.tmp 17) (.tmp 21) 35 4 (.bool false) 1 rfl Try.underlying35 info4 rfl (by decide) (by omega) u4 x4_1 t273 [.bool t273] (fun _ => True) (fun _ => False) rfl rfl ?aP (fun _ hk => hk.elim) ?aF ?aO ?aB ?aS ?aL ?_; (case aP => exact rfl); (case aB => exact (by repeat (first | (with_reducible first | exact HB.out | apply below_alloc | apply pw_below_drewN | apply below_drew1 | refine below_set ?_ GE263.out) | exact HB.out))); (case aF => exact (fun _ _ => trivial)); (case aO => exact (by (with_reducible repeat (first | apply Kd.R_alloc | apply Kd.R_drewN | apply Kd.R_drew)); exact HO_4.out)); (case aS => exact (below_size (by repeat (first | (with_reducible first | exact HB.out | apply below_alloc | apply pw_below_drewN | apply below_drew1 | refine below_set ?_ GE263.out) | exact HB.out)))); (case aL => have := LMc13.out; omega); intro v275 w16 ho hb hg hat; rw [← Ny274.out] at ho; have n0_ := Aside0.mk (Kd.R_over' (by (with_reducible repeat (first | apply Kd.R_alloc | apply Kd.R_drewN | apply Kd.R_drew)); exact HO_3.out) (Kd.R_typed (by (with_reducible repeat (first | apply Kd.R_alloc | apply Kd.R_drewN | apply Kd.R_drew)); exact HO_4.out)) (by decide) hg); have n1_ := Aside0.mk (blk_grown (g := gb263) (o := .cells #[.int .i64 a0_0, .int .i64 a0_1, .slice A0_2 l0_2.length c0_2, .slice A0_3 l0_3.length c0_3] 25 (0, 0)) (by (with_reducible repeat (first | refine blk_drewN ?_ _ | refine blk_drew ?_ | refine blk_alloc ?_ _)); exact BK263.out) hg (Kd.R_ne HO_4.out BK263.out (by decide))); have n2_ := Aside0.mk (hb); have n3_ := Aside0.mk (ho); clear HO_3; clear BK263; clear HB; clear HO_4; have HO_3 := n0_; have BK263 := n1_; have HB := n2_; have HO276 := n3_; clear n0_ n1_ n2_ n3_; clear ho hb hg hat))
          go_roundg k1
          case measure => have := HK1.out; omega
          case rel => exact ⟨(y274), (wrap64 (x5_1 + 1)), (by first | rfl | (simp; done) | (simp [*]; done)), H', ⟨by have := HK1.out; omega⟩, ⟨by (with_reducible repeat (first | apply Kd.R_alloc | apply Kd.R_drewN | apply Kd.R_drew)); exact HO_3.out⟩, ⟨by (with_reducible repeat (first | apply Kd.R_alloc | apply Kd.R_drewN | apply Kd.R_drew)); exact HO276.out⟩, ⟨by (with_reducible repeat (first | refine blk_drewN ?_ _ | refine blk_drew ?_ | refine blk_alloc ?_ _)); exact BK263.out⟩, ⟨by repeat (first | (with_reducible first | exact HB.out | apply below_alloc | apply pw_below_drewN | apply below_drew1 | refine below_set ?_ GE263.out) | exact HB.out)⟩⟩
        · rw [if_neg c13] at H
          exact absurd H (by simp)
      · rw [if_neg c11] at H
        have c11b0 : decide (x5_1 < (l0_2.length : Int)) = false := decide_eq_false c11
        clear c11
        obtain rfl := Option.some.inj H
        have hcz17_0 : wr.cell? ⟨gb263, 0, none⟩ = some (.int .i64 a0_0) := (blk_cell BK263.out 0).trans rfl
        have hcz17_1 : wr.cell? ⟨gb263, 1, none⟩ = some (.int .i64 a0_1) := (blk_cell BK263.out 1).trans rfl
        have hcz17_2 : wr.cell? ⟨gb263, 2, none⟩ = some (.slice A0_2 l0_2.length c0_2) := (blk_cell BK263.out 2).trans rfl
        have hcz17_3 : wr.cell? ⟨gb263, 3, none⟩ = some (.slice A0_3 l0_3.length c0_3) := (blk_cell BK263.out 3).trans rfl
        have hfz17_0 := blk_frozen BK263.out 0
        have hfz17_1 := blk_frozen BK263.out 1
        have hfz17_2 := blk_frozen BK263.out 2
        have hfz17_3 := blk_frozen BK263.out 3
        go_wp2
        go_ret
        exact ⟨_, by first | rfl | (simp [errW_none, errW_some] <;> rfl) | (simp [*, errW_none, errW_some] <;> rfl), by (with_reducible repeat (first | apply Kd.R_alloc | apply Kd.R_drewN | apply Kd.R_drew)); exact HO_4.out, by repeat (first | (with_reducible first | exact HB.out | apply below_alloc | apply pw_below_drewN | apply below_drew1 | refine below_set ?_ GE263.out) | exact HB.out)⟩
def gramaryeref10_Ends.f (k : Nat) (a0_0 : Int) (a0_1 : Int) (l0_2 : List Int) (l0_3 : List (S51)) : Option (List Bool) := (gramaryeref10_mark.f k a0_0 a0_1 l0_2 l0_3 true).bind fun t278 => (some t278)
set_option maxHeartbeats 8000000 in
set_option maxRecDepth 100000 in
theorem gramaryeref10_Ends.calls (k : Nat) (a0_0 : Int) (a0_1 : Int) (A0_2 : Option Addr) (c0_2 : Nat) (l0_2 : List Int) (A0_3 : Option Addr) (c0_3 : Nat) (l0_3 : List (S51)) (r : List Bool) (w : World) (hr0_2 : Kd.C (Kd.int .i64) w A0_2 l0_2.length l0_2) (hc0_2 : l0_2.length ≤ c0_2) (hr0_3 : Kd.C k51 w A0_3 l0_3.length l0_3) (hc0_3 : l0_3.length ≤ c0_3) (h : gramaryeref10_Ends.f k a0_0 a0_1 l0_2 l0_3 = some r) :
    Calls Try.prog 22 #[.agg #[.int .i64 a0_0, .int .i64 a0_1, .slice A0_2 l0_2.length c0_2, .slice A0_3 l0_3.length c0_3]] w fun e w' => ∃ v0_ : Value, e = .returned (v0_) ∧ Kd.R Kd.bool 4 w' w.heap.size (fun _ => True) v0_ r ∧ Below w.heap.size w w' := by
  have hu25 := Try.underlying25
  have HR0_2 := Aside0.mk hr0_2
  have HC0_2 := Aside0.mk hc0_2
  clear hr0_2 hc0_2
  have HR0_3 := Aside0.mk hr0_3
  have HC0_3 := Aside0.mk hc0_3
  clear hr0_3 hc0_3
  have HB := Aside0.mk (Below.refl w.heap.size w)
  have H : ((gramaryeref10_mark.f k a0_0 a0_1 l0_2 l0_3 true).bind fun t278 => (some t278)) = some r := h
  clear h
  replace H := Option.bind_eq_some_iff.mp H
  obtain ⟨t278, A20, H⟩ := H
  replace H : (some t278) = some r := H
  have A2 := Aside0.mk A20
  clear A20
  obtain rfl := Option.some.inj H
  go_enter Try.func22, Try.ntmps22
  go_wp2_with (first | ((with_reducible refine gate_dst (N := 1) rfl ?_); refine box_event ?hg (N := 1) ?hd (cs := #[.int .i64 a0_0, .int .i64 a0_1, .slice A0_2 l0_2.length c0_2, .slice A0_3 l0_3.length c0_3]) (t := 25) ?hr ?_; (case hd => rfl); (case hg => rfl); (case hr => first | (go_simp; done) | (go_simp; rfl)); intro gb277 hg w3 hbox hb; have n0_ := Aside0.mk (below_step (by repeat (first | (with_reducible first | exact HB.out | apply below_alloc | apply pw_below_drewN | apply below_drew1) | exact HB.out)) hb); have n1_ := Aside0.mk (hbox); have n2_ := Aside0.mk ((by rw [hg]; exact (below_size (by repeat (first | (with_reducible first | exact HB.out | apply below_alloc | apply pw_below_drewN | apply below_drew1) | exact HB.out))) : w.heap.size ≤ gb277)); have n3_ := Aside0.mk ((by rw [hg]; exact (below_size (by repeat (first | (with_reducible first | exact HB.out | apply below_alloc | apply pw_below_drewN | apply below_drew1) | exact HB.out))) : w.heap.size ≤ gb277)); clear HB; have HB := n0_; have BK277 := n1_; have GW277 := n2_; have GE277 := n3_; clear n0_ n1_ n2_ n3_; clear hb hbox hg; have hcz4_0 : w3.cell? ⟨gb277, 0, none⟩ = some (.int .i64 a0_0) := (blk_cell BK277.out 0).trans rfl; have hcz4_1 : w3.cell? ⟨gb277, 1, none⟩ = some (.int .i64 a0_1) := (blk_cell BK277.out 1).trans rfl; have hcz4_2 : w3.cell? ⟨gb277, 2, none⟩ = some (.slice A0_2 l0_2.length c0_2) := (blk_cell BK277.out 2).trans rfl; have hcz4_3 : w3.cell? ⟨gb277, 3, none⟩ = some (.slice A0_3 l0_3.length c0_3) := (blk_cell BK277.out 3).trans rfl; have hfz4_0 := blk_frozen BK277.out 0; have hfz4_1 := blk_frozen BK277.out 1; have hfz4_2 := blk_frozen BK277.out 2; have hfz4_3 := blk_frozen BK277.out 3) | ((with_reducible refine gate_callee (f := 48) rfl ?_); refine goesL_ (some 4) rfl rfl Try.func48 (by kernel_rfl) rfl #[.agg #[.int .i64 a0_0, .int .i64 a0_1, .slice A0_2 l0_2.length c0_2, .slice A0_3 l0_3.length c0_3], .bool true] rfl (by (try simp only [List.map_toArray, List.map_cons, List.map_nil]); first | done | rfl | (simp only [List.length_drop, List.length_take]; rfl)) ?_; (with_reducible refine (gramaryeref10_mark.calls k a0_0 a0_1 _ _ l0_2 _ _ l0_3 true t278 _ ?side1 ?side2 ?side3 ?side4 A2.out).mono ?_); (case side1 => repeat (first | exact (Kd.C_below HR0_2.out HB.out) | (with_reducible refine Kd.C_alloc ?_ _) | (with_reducible refine Kd.C_drewN ?_ _) | (with_reducible refine Kd.C_drew ?_))); (case side2 => exact HC0_2.out); (case side3 => repeat (first | exact (Kd.C_below HR0_3.out HB.out) | (with_reducible refine Kd.C_alloc ?_ _) | (with_reducible refine Kd.C_drewN ?_ _) | (with_reducible refine Kd.C_drew ?_))); (case side4 => exact HC0_3.out); rintro e w5 ⟨v279, rfl, ho0, hb⟩; refine ⟨_, rfl, ?_⟩; have n0_ := Aside0.mk (Kd.R_lower ho0 (below_size (by repeat (first | (with_reducible first | exact HB.out | apply below_alloc | apply pw_below_drewN | apply below_drew1 | refine below_set ?_ GE277.out) | exact HB.out)))); have n1_ := Aside0.mk (blk_below (g := gb277) (o := .cells #[.int .i64 a0_0, .int .i64 a0_1, .slice A0_2 l0_2.length c0_2, .slice A0_3 l0_3.length c0_3] 25 (0, 0)) (by (with_reducible repeat (first | refine blk_drewN ?_ _ | refine blk_drew ?_ | refine blk_alloc ?_ _)); exact BK277.out) hb); have n2_ := Aside0.mk (below_step (by repeat (first | (with_reducible first | exact HB.out | apply below_alloc | apply pw_below_drewN | apply below_drew1 | refine below_set ?_ GE277.out) | exact HB.out)) hb); clear BK277; clear HB; have HO280 := n0_; have BK277 := n1_; have HB := n2_; clear n0_ n1_ n2_; (try clear hb); (try clear hb2); (try clear hk); (try clear hi); (try clear ho0)))
  go_ret
  exact ⟨_, by first | rfl | (simp [errW_none, errW_some] <;> rfl) | (simp [*, errW_none, errW_some] <;> rfl), by (with_reducible repeat (first | apply Kd.R_alloc | apply Kd.R_drewN | apply Kd.R_drew)); exact HO280.out, by repeat (first | (with_reducible first | exact HB.out | apply below_alloc | apply pw_below_drewN | apply below_drew1 | refine below_set ?_ GE277.out) | exact HB.out)⟩
def gramaryeref11_Dead.l0 : Nat → List Bool → List Int → Int → Option (List Int)
  | 0, _, _, _ => none
  | k + 1, x3, x4, x5 => if x5 < (x3.length : Int) then (if 0 ≤ x5 then (if rdOf false x3 x5 = true then (gramaryeref11_Dead.l0 k x3 x4 (wrap64 (x5 + 1))) else (if x4.length < 17592186044416 then (gramaryeref11_Dead.l0 k x3 (x4 ++ [x5]) (wrap64 (x5 + 1))) else (none))) else (none)) else (some x4)
def gramaryeref11_Dead.f (k : Nat) (a0_0 : Int) (a0_1 : Int) (l0_2 : List Int) (l0_3 : List (S51)) : Option (List Int) := (gramaryeref10_Ends.f k a0_0 a0_1 l0_2 l0_3).bind fun t282 => (gramaryeref11_Dead.l0 k t282 (([] : List Int)) 0)
set_option maxHeartbeats 8000000 in
set_option maxRecDepth 100000 in
theorem gramaryeref11_Dead.calls (k : Nat) (a0_0 : Int) (a0_1 : Int) (A0_2 : Option Addr) (c0_2 : Nat) (l0_2 : List Int) (A0_3 : Option Addr) (c0_3 : Nat) (l0_3 : List (S51)) (r : List Int) (w : World) (hr0_2 : Kd.C (Kd.int .i64) w A0_2 l0_2.length l0_2) (hc0_2 : l0_2.length ≤ c0_2) (hr0_3 : Kd.C k51 w A0_3 l0_3.length l0_3) (hc0_3 : l0_3.length ≤ c0_3) (h : gramaryeref11_Dead.f k a0_0 a0_1 l0_2 l0_3 = some r) :
    Calls Try.prog 35 #[.agg #[.int .i64 a0_0, .int .i64 a0_1, .slice A0_2 l0_2.length c0_2, .slice A0_3 l0_3.length c0_3]] w fun e w' => ∃ v0_ : Value, e = .returned (v0_) ∧ Kd.R (Kd.int .i64) 3 w' w.heap.size (fun _ => True) v0_ r ∧ Below w.heap.size w w' := by
  have hu25 := Try.underlying25
  have HR0_2 := Aside0.mk hr0_2
  have HC0_2 := Aside0.mk hc0_2
  clear hr0_2 hc0_2
  have HR0_3 := Aside0.mk hr0_3
  have HC0_3 := Aside0.mk hc0_3
  clear hr0_3 hc0_3
  have HB := Aside0.mk (Below.refl w.heap.size w)
  have H : ((gramaryeref10_Ends.f k a0_0 a0_1 l0_2 l0_3).bind fun t282 => (gramaryeref11_Dead.l0 k t282 (([] : List Int)) 0)) = some r := h
  clear h
  replace H := Option.bind_eq_some_iff.mp H
  obtain ⟨t282, A20, H⟩ := H
  replace H : (gramaryeref11_Dead.l0 k t282 (([] : List Int)) 0) = some r := H
  have A2 := Aside0.mk A20
  clear A20
  obtain ⟨y285, hy285⟩ : ∃ y_ : List Int, y_ = (([] : List Int)) := ⟨_, rfl⟩
  replace H : (gramaryeref11_Dead.l0 k t282 y285 0) = some r := by first | (rw [hy285]; with_reducible exact H) | (have H2_ := (Option.bind_some _ _).symm.trans H; rw [hy285]; with_reducible exact H2_) | (have H2_ := (Option.bind_some _ _).symm.trans H; with_reducible exact H2_) | with_reducible exact H | (rw [hy285]; exact H) | exact H
  have Ny285 := Aside0.mk hy285
  clear hy285
  have H' := Aside0.mk H
  clear H
  go_enter Try.func35, Try.ntmps35
  go_wp2_with (first | ((with_reducible refine gate_dst (N := 1) rfl ?_); refine box_event ?hg (N := 1) ?hd (cs := #[.int .i64 a0_0, .int .i64 a0_1, .slice A0_2 l0_2.length c0_2, .slice A0_3 l0_3.length c0_3]) (t := 25) ?hr ?_; (case hd => rfl); (case hg => rfl); (case hr => first | (go_simp; done) | (go_simp; rfl)); intro gb281 hg w3 hbox hb; have n0_ := Aside0.mk (below_step (by repeat (first | (with_reducible first | exact HB.out | apply below_alloc | apply pw_below_drewN | apply below_drew1) | exact HB.out)) hb); have n1_ := Aside0.mk (hbox); have n2_ := Aside0.mk ((by rw [hg]; exact (below_size (by repeat (first | (with_reducible first | exact HB.out | apply below_alloc | apply pw_below_drewN | apply below_drew1) | exact HB.out))) : w.heap.size ≤ gb281)); have n3_ := Aside0.mk ((by rw [hg]; exact (below_size (by repeat (first | (with_reducible first | exact HB.out | apply below_alloc | apply pw_below_drewN | apply below_drew1) | exact HB.out))) : w.heap.size ≤ gb281)); clear HB; have HB := n0_; have BK281 := n1_; have GW281 := n2_; have GE281 := n3_; clear n0_ n1_ n2_ n3_; clear hb hbox hg; have hcz4_0 : w3.cell? ⟨gb281, 0, none⟩ = some (.int .i64 a0_0) := (blk_cell BK281.out 0).trans rfl; have hcz4_1 : w3.cell? ⟨gb281, 1, none⟩ = some (.int .i64 a0_1) := (blk_cell BK281.out 1).trans rfl; have hcz4_2 : w3.cell? ⟨gb281, 2, none⟩ = some (.slice A0_2 l0_2.length c0_2) := (blk_cell BK281.out 2).trans rfl; have hcz4_3 : w3.cell? ⟨gb281, 3, none⟩ = some (.slice A0_3 l0_3.length c0_3) := (blk_cell BK281.out 3).trans rfl; have hfz4_0 := blk_frozen BK281.out 0; have hfz4_1 := blk_frozen BK281.out 1; have hfz4_2 := blk_frozen BK281.out 2; have hfz4_3 := blk_frozen BK281.out 3) | ((with_reducible refine gate_callee (f := 22) rfl ?_); refine goesL_ (some 7) rfl rfl Try.func22 (by kernel_rfl) rfl #[.agg #[.int .i64 a0_0, .int .i64 a0_1, .slice A0_2 l0_2.length c0_2, .slice A0_3 l0_3.length c0_3]] rfl (by (try simp only [List.map_toArray, List.map_cons, List.map_nil]); first | done | rfl | (simp only [List.length_drop, List.length_take]; rfl)) ?_; (with_reducible refine (gramaryeref10_Ends.calls k a0_0 a0_1 _ _ l0_2 _ _ l0_3 t282 _ ?side1 ?side2 ?side3 ?side4 A2.out).mono ?_); (case side1 => repeat (first | exact (Kd.C_below HR0_2.out HB.out) | (with_reducible refine Kd.C_alloc ?_ _) | (with_reducible refine Kd.C_drewN ?_ _) | (with_reducible refine Kd.C_drew ?_))); (case side2 => exact HC0_2.out); (case side3 => repeat (first | exact (Kd.C_below HR0_3.out HB.out) | (with_reducible refine Kd.C_alloc ?_ _) | (with_reducible refine Kd.C_drewN ?_ _) | (with_reducible refine Kd.C_drew ?_))); (case side4 => exact HC0_3.out); rintro e w5 ⟨v283, rfl, ho0, hb⟩; refine ⟨_, rfl, ?_⟩; have n0_ := Aside0.mk (Kd.R_lower ho0 (below_size (by repeat (first | (with_reducible first | exact HB.out | apply below_alloc | apply pw_below_drewN | apply below_drew1 | refine below_set ?_ GE281.out) | exact HB.out)))); have n1_ := Aside0.mk (blk_below (g := gb281) (o := .cells #[.int .i64 a0_0, .int .i64 a0_1, .slice A0_2 l0_2.length c0_2, .slice A0_3 l0_3.length c0_3] 25 (0, 0)) (by (with_reducible repeat (first | refine blk_drewN ?_ _ | refine blk_drew ?_ | refine blk_alloc ?_ _)); exact BK281.out) hb); have n2_ := Aside0.mk (below_step (by repeat (first | (with_reducible first | exact HB.out | apply below_alloc | apply pw_below_drewN | apply below_drew1 | refine below_set ?_ GE281.out) | exact HB.out)) hb); clear BK281; clear HB; have HO284 := n0_; have BK281 := n1_; have HB := n2_; clear n0_ n1_ n2_; (try clear hb); (try clear hb2); (try clear hk); (try clear hi); (try clear ho0)) | ((with_reducible refine gate_dst (N := 8) rfl ?_); refine Kd.R_lit (Kd.int .i64) _ 3 ?hg (N := 8) ?hd (xs := ([] : List Int)) (inner := []) (ok := fun _ => True) (okp := fun _ => True) ?hr ?hp (fun _ hk => hk) trivial (Below.refl _ _) (Nat.le_refl _) (by simp) ?_; (case hd => rfl); (case hg => rfl); (case hr => first | (go_simp; done) | (go_simp; rfl)); (case hp => exact (Reps.none _ _)); intro v286 w6 ho7 hb hg_ hnew_; clear hg_ hnew_; (first | rw [← Ny285.out] at ho7 | (simp only [Int.reduceToNat] at ho7; rw [← Ny285.out] at ho7)); have n0_ := Aside0.mk (Kd.R_below (by (with_reducible repeat (first | apply Kd.R_alloc | apply Kd.R_drewN | apply Kd.R_drew)); exact HO284.out) hb); have n1_ := Aside0.mk (Kd.R_lower ho7 (below_size (by repeat (first | (with_reducible first | exact HB.out | apply below_alloc | apply pw_below_drewN | apply below_drew1 | refine below_set ?_ GE281.out) | exact HB.out)))); have n2_ := Aside0.mk (blk_below (g := gb281) (o := .cells #[.int .i64 a0_0, .int .i64 a0_1, .slice A0_2 l0_2.length c0_2, .slice A0_3 l0_3.length c0_3] 25 (0, 0)) (by (with_reducible repeat (first | refine blk_drewN ?_ _ | refine blk_drew ?_ | refine blk_alloc ?_ _)); exact BK281.out) hb); have n3_ := Aside0.mk (below_step (by repeat (first | (with_reducible first | exact HB.out | apply below_alloc | apply pw_below_drewN | apply below_drew1 | refine below_set ?_ GE281.out) | exact HB.out)) hb); clear HO284; clear BK281; clear HB; have HO284 := n0_; have HO287 := n1_; have BK281 := n2_; have HB := n3_; clear n0_ n1_ n2_ n3_; clear hb ho7))
  (try (with_reducible (show Code.wp _ _ _ (Act.put _ _ _) _); go_simp))
  go_loopg [4, 5] k (fun kq v4 v5 w' => ∃ (x4_1 : List Int) (x5_1 : Int), v5 = .int .i64 x5_1 ∧ Aside0 (gramaryeref11_Dead.l0 kq t282 x4_1 x5_1 = some r) ∧ Aside0 (kq ≤ k) ∧ Aside0 (Kd.R Kd.bool 4 w' w.heap.size (fun _ => True) v283 t282) ∧ Aside0 (Kd.R (Kd.int .i64) 3 w' w.heap.size (fun _ => True) v4 x4_1) ∧ Aside0 (w'.heap[gb281]? = some (.cells #[.int .i64 a0_0, .int .i64 a0_1, (.slice A0_2 l0_2.length c0_2), (.slice A0_3 l0_3.length c0_3)] 25 (0, 0))) ∧ Aside0 (Below w.heap.size w w'))
  case atStart => exact ⟨(y285), (0), (by first | rfl | (simp; done) | (simp [*]; done)), H', ⟨Nat.le_refl _⟩, ⟨by (with_reducible repeat (first | apply Kd.R_alloc | apply Kd.R_drewN | apply Kd.R_drew)); exact HO284.out⟩, ⟨by (with_reducible repeat (first | apply Kd.R_alloc | apply Kd.R_drewN | apply Kd.R_drew)); exact HO287.out⟩, ⟨by (with_reducible repeat (first | refine blk_drewN ?_ _ | refine blk_drew ?_ | refine blk_alloc ?_ _)); exact BK281.out⟩, ⟨by repeat (first | (with_reducible first | exact HB.out | apply below_alloc | apply pw_below_drewN | apply below_drew1 | refine below_set ?_ GE281.out) | exact HB.out)⟩⟩
  case round =>
    clear H'
    try clear c2
    try clear p2
    try clear c3
    try clear hcz4_0
    try clear hcz4_1
    try clear hcz4_2
    try clear hcz4_3
    try clear hfz4_0
    try clear hfz4_1
    try clear hfz4_2
    try clear hfz4_3
    obtain ⟨x4_1, x5_1, rfl, HA, HK1, HO_3, HO_4, BK281, HB⟩ := hrel
    cases gk with
    | zero => exact absurd HA.out (by simp [gramaryeref11_Dead.l0])
    | succ k1 =>
      have H := HA.out
      clear HA
      simp only [gramaryeref11_Dead.l0] at H
      by_cases c8 : x5_1 < (t282.length : Int)
      · rw [if_pos c8] at H
        have c8b0 : decide (x5_1 < (t282.length : Int)) = true := decide_eq_true c8
        clear c8
        by_cases c9 : 0 ≤ x5_1
        · rw [if_pos c9] at H
          have c9b0 : decide (0 ≤ x5_1) = true := decide_eq_true c9
          clear c9
          obtain ⟨bq10, hbq10⟩ : ∃ b_ : Bool, b_ = (rdOf false t282 x5_1) := ⟨_, rfl⟩
          replace H : (if bq10 = true then (gramaryeref11_Dead.l0 k1 t282 x4_1 (wrap64 (x5_1 + 1))) else (if x4_1.length < 17592186044416 then (gramaryeref11_Dead.l0 k1 t282 (x4_1 ++ [x5_1]) (wrap64 (x5_1 + 1))) else (none))) = some r := by rw [← hbq10] at H; exact H
          have Nbq10 := Aside0.mk hbq10
          clear hbq10
          by_cases c11 : bq10 = true
          · subst c11
            have H1 : (gramaryeref11_Dead.l0 k1 t282 x4_1 (wrap64 (x5_1 + 1))) = some r := by rw [if_pos rfl] at H; exact H
            clear H
            have H := H1
            clear H1
            have H' := Aside0.mk H
            clear H
            obtain ⟨Ao12, co12, eo12⟩ := Kd.R_slice HO_3.out
            subst eo12
            have p288 : 0 ≤ (x5_1 : Int) := of_decide_eq_true (by first | (with_reducible assumption) | assumption)
            have q288 : x5_1 < (t282.length : Int) := of_decide_eq_true (by first | (with_reducible assumption) | assumption)
            obtain ⟨ad288, e288, hx288_0⟩ := Kd.at_bool (Kd.R_reads' HO_3.out).2.2 x5_1 p288 q288
            (try rw [← Nbq10.out] at hx288_0)
            cases e288
            replace p288 := eq_true p288
            replace q288 := eq_true q288
            go_wp2
            go_roundg k1
            case measure => have := HK1.out; omega
            case rel => (try rw [← Nbq10.out]); exact ⟨(x4_1), (wrap64 (x5_1 + 1)), (by first | rfl | (simp; done) | (simp [*]; done)), H', ⟨by have := HK1.out; omega⟩, ⟨by (with_reducible repeat (first | apply Kd.R_alloc | apply Kd.R_drewN | apply Kd.R_drew)); exact HO_3.out⟩, ⟨by (with_reducible repeat (first | apply Kd.R_alloc | apply Kd.R_drewN | apply Kd.R_drew)); exact HO_4.out⟩, ⟨by (with_reducible repeat (first | refine blk_drewN ?_ _ | refine blk_drew ?_ | refine blk_alloc ?_ _)); exact BK281.out⟩, ⟨by repeat (first | (with_reducible first | exact HB.out | apply below_alloc | apply pw_below_drewN | apply below_drew1 | refine below_set ?_ GE281.out) | exact HB.out)⟩⟩
          · replace c11 := Bool.eq_false_iff.mpr c11
            subst c11
            have H1 : (if x4_1.length < 17592186044416 then (gramaryeref11_Dead.l0 k1 t282 (x4_1 ++ [x5_1]) (wrap64 (x5_1 + 1))) else (none)) = some r := by rw [if_neg (show ¬ (false = true) by decide)] at H; exact H
            clear H
            have H := H1
            clear H1
            by_cases c13 : x4_1.length < 17592186044416
            · rw [if_pos c13] at H
              have LMc13 := Aside0.mk c13
              clear c13
              obtain ⟨y289, hy289⟩ : ∃ y_ : List Int, y_ = (x4_1 ++ [x5_1]) := ⟨_, rfl⟩
              replace H : (gramaryeref11_Dead.l0 k1 t282 y289 (wrap64 (x5_1 + 1))) = some r := by first | (rw [hy289]; with_reducible exact H) | (have H2_ := (Option.bind_some _ _).symm.trans H; rw [hy289]; with_reducible exact H2_) | (have H2_ := (Option.bind_some _ _).symm.trans H; with_reducible exact H2_) | with_reducible exact H | (rw [hy289]; exact H) | exact H
              have Ny289 := Aside0.mk hy289
              clear hy289
              have H' := Aside0.mk H
              clear H
              obtain ⟨Ao14, co14, eo14⟩ := Kd.R_slice HO_3.out
              subst eo14
              have p288 : 0 ≤ (x5_1 : Int) := of_decide_eq_true (by first | (with_reducible assumption) | assumption)
              have q288 : x5_1 < (t282.length : Int) := of_decide_eq_true (by first | (with_reducible assumption) | assumption)
              obtain ⟨ad288, e288, hx288_0⟩ := Kd.at_bool (Kd.R_reads' HO_3.out).2.2 x5_1 p288 q288
              (try rw [← Nbq10.out] at hx288_0)
              cases e288
              replace p288 := eq_true p288
              replace q288 := eq_true q288
              go_wp2_with (first | ((with_reducible refine gate_builtin (b := .append) (xs := #[.tmp 20, .tmp 22]) rfl ?_); at_builtin; refine Kd.R_append (Kd.int .i64) (w0 := w) w.heap.size rfl (.tmp 20) (.tmp 22) 22 3 (.int .i64 0) 8 rfl Try.underlying22 info3 rfl (by decide) (by omega) u4 x4_1 x5_1 [.int .i64 x5_1] (fun _ => True) (fun _ => False) rfl rfl ?aP (fun _ hk => hk.elim) ?aF ?aO ?aB ?aS ?aL ?_; (case aP => exact rfl); (case aB => exact (by repeat (first | (with_reducible first | exact HB.out | apply below_alloc | apply pw_below_drewN | apply below_drew1 | refine below_set ?_ GE281.out) | exact HB.out))); (case aF => exact (fun _ _ => trivial)); (case aO => exact (by (with_reducible repeat (first | apply Kd.R_alloc | apply Kd.R_drewN | apply Kd.R_drew)); exact HO_4.out)); (case aS => exact (below_size (by repeat (first | (with_reducible first | exact HB.out | apply below_alloc | apply pw_below_drewN | apply below_drew1 | refine below_set ?_ GE281.out) | exact HB.out)))); (case aL => have := LMc13.out; omega); intro v290 w15 ho hb hg hat; rw [← Ny289.out] at ho; have n0_ := Aside0.mk (Kd.R_over' (by (with_reducible repeat (first | apply Kd.R_alloc | apply Kd.R_drewN | apply Kd.R_drew)); exact HO_3.out) (Kd.R_typed (by (with_reducible repeat (first | apply Kd.R_alloc | apply Kd.R_drewN | apply Kd.R_drew)); exact HO_4.out)) (by decide) hg); have n1_ := Aside0.mk (blk_grown (g := gb281) (o := .cells #[.int .i64 a0_0, .int .i64 a0_1, .slice A0_2 l0_2.length c0_2, .slice A0_3 l0_3.length c0_3] 25 (0, 0)) (by (with_reducible repeat (first | refine blk_drewN ?_ _ | refine blk_drew ?_ | refine blk_alloc ?_ _)); exact BK281.out) hg (Kd.R_ne HO_4.out BK281.out (by decide))); have n2_ := Aside0.mk (hb); have n3_ := Aside0.mk (ho); clear HO_3; clear BK281; clear HB; clear HO_4; have HO_3 := n0_; have BK281 := n1_; have HB := n2_; have HO291 := n3_; clear n0_ n1_ n2_ n3_; clear ho hb hg hat))
              go_roundg k1
              case measure => have := HK1.out; omega
              case rel => (try rw [← Nbq10.out]); exact ⟨(y289), (wrap64 (x5_1 + 1)), (by first | rfl | (simp; done) | (simp [*]; done)), H', ⟨by have := HK1.out; omega⟩, ⟨by (with_reducible repeat (first | apply Kd.R_alloc | apply Kd.R_drewN | apply Kd.R_drew)); exact HO_3.out⟩, ⟨by (with_reducible repeat (first | apply Kd.R_alloc | apply Kd.R_drewN | apply Kd.R_drew)); exact HO291.out⟩, ⟨by (with_reducible repeat (first | refine blk_drewN ?_ _ | refine blk_drew ?_ | refine blk_alloc ?_ _)); exact BK281.out⟩, ⟨by repeat (first | (with_reducible first | exact HB.out | apply below_alloc | apply pw_below_drewN | apply below_drew1 | refine below_set ?_ GE281.out) | exact HB.out)⟩⟩
            · rw [if_neg c13] at H
              exact absurd H (by simp)
        · rw [if_neg c9] at H
          exact absurd H (by simp)
      · rw [if_neg c8] at H
        have c8b0 : decide (x5_1 < (t282.length : Int)) = false := decide_eq_false c8
        clear c8
        obtain rfl := Option.some.inj H
        obtain ⟨Ao16, co16, eo16⟩ := Kd.R_slice HO_3.out
        subst eo16
        go_wp2
        go_ret
        exact ⟨_, by first | rfl | (simp [errW_none, errW_some] <;> rfl) | (simp [*, errW_none, errW_some] <;> rfl), by (with_reducible repeat (first | apply Kd.R_alloc | apply Kd.R_drewN | apply Kd.R_drew)); exact HO_4.out, by repeat (first | (with_reducible first | exact HB.out | apply below_alloc | apply pw_below_drewN | apply below_drew1 | refine below_set ?_ GE281.out) | exact HB.out)⟩
end Go.Proofs.Ytmpdilifoblnaaa.MReachTells
end
section
namespace Go.Proofs.Ytmpdilifoblnaaa.MReachTells
open Go.RowKit Go.Proofs.YtmpdilifoblnaaaW.PrintWords Go.Proofs.YtmpdilifoblnaaaW.PrintLast Go.Proofs.YtmpdilifoblnaaaW.PrintMore Go.Proofs.Ytmpdilifoblnaaa.Fun Go.Proofs.Ytmpdilifoblnaaa.Mem
attribute [local go_sem] max2_int min2_int max_two min_two max_three min_three max_four min_four
set_option linter.unusedVariables false
set_option linter.unusedSimpArgs false
def gramaryelaw11_ReachTells.g (k : Nat) (b : Int × Int × List Int × List S51) (x : List Bool × Int) (l : List Int × Int) (m : Int) : Option Bool :=
  if m = 0 then (gramaryeref11_Reached.f k b.1 b.2.1 b.2.2.1 b.2.2.2).bind fun y => (if x.2 = 0 ∧ l.2 = 0 ∧ x.1.length = y.length then (if x.1 = y then (gramaryeref11_Dead.f k b.1 b.2.1 b.2.2.1 b.2.2.2).bind fun d => (gramaryebase_SameInts.f k l.1 d).bind fun s => (if s = true then gramaryelaw11_works.f k else some false) else some false) else some false)
  else (if x.2 = m ∧ l.2 = m ∧ wrap64 ((x.1.length : Int) + (l.1.length : Int)) = 0 then gramaryelaw11_works.f k else some false)
def gramaryelaw11_ReachTells.f (k : Nat) (a0_0 : Int) (a0_1 : Int) (l0_2 : List Int) (l0_3 : List (S51)) : Option Bool :=
  (gramaryelaw11_few.f k a0_0 a0_1 l0_2 l0_3).bind fun b => (gramaryelaw11_few.f k b.1 b.2.1 b.2.2.1 b.2.2.2).bind fun b1 =>
  (reach_Reached.f b1.1 b1.2.1 b1.2.2.1 b1.2.2.2).bind fun x => (reach_Dead.f k b1.1 b1.2.1 b1.2.2.1 b1.2.2.2).bind fun l =>
  (gramaryeref09_May.f k b.1 b.2.1 b.2.2.1 b.2.2.2).bind fun m => gramaryelaw11_ReachTells.g k b x l m
theorem mv4 {w w1 : World} {a b c d : Addr} {p q r s : Value} (h : w.cell? a = some p ∧ w.cell? b = some q ∧ w.cell? c = some r ∧ w.cell? d = some s) (hb : Below w.heap.size w w1) : w1.cell? a = some p ∧ w1.cell? b = some q ∧ w1.cell? c = some r ∧ w1.cell? d = some s :=
  ⟨pw_cell_below hb h.1, pw_cell_below hb h.2.1, pw_cell_below hb h.2.2.1, pw_cell_below hb h.2.2.2⟩
set_option maxHeartbeats 8000000 in
set_option maxRecDepth 100000 in
theorem gramaryelaw11_ReachTells.calls (k : Nat) (a0_0 : Int) (a0_1 : Int) (A0_2 : Option Addr) (c0_2 : Nat) (l0_2 : List Int) (A0_3 : Option Addr) (c0_3 : Nat) (l0_3 : List (S51)) (r : Bool) (w : World) (hr0_2 : Kd.C (Kd.int .i64) w A0_2 l0_2.length l0_2) (hc0_2 : l0_2.length ≤ c0_2) (hr0_3 : Kd.C k51 w A0_3 l0_3.length l0_3) (hc0_3 : l0_3.length ≤ c0_3) (h : gramaryelaw11_ReachTells.f k a0_0 a0_1 l0_2 l0_3 = some r) :
    Calls Try.prog 9 #[.agg #[.int .i64 a0_0, .int .i64 a0_1, .slice A0_2 l0_2.length c0_2, .slice A0_3 l0_3.length c0_3]] w fun e w' => e = .returned (.bool r) ∧ Below w.heap.size w w' := by
  obtain ⟨⟨t, lk, o, L⟩, hF1, h0⟩ := Option.bind_eq_some_iff.1 h
  obtain ⟨⟨t', lk', o', L'⟩, hF2, h1⟩ := Option.bind_eq_some_iff.1 h0
  obtain ⟨⟨x, xe⟩, hN, h2⟩ := Option.bind_eq_some_iff.1 h1
  obtain ⟨⟨y, ye⟩, hE, h3⟩ := Option.bind_eq_some_iff.1 h2
  obtain ⟨m, hM, h5⟩ := Option.bind_eq_some_iff.1 h3
  clear h h0 h1 h2 h3
  simp only at hF2 hN hE hM h5
  have HN := Aside0.mk hN
  have HE := Aside0.mk hE
  have HM := Aside0.mk hM
  have H := Aside0.mk h5
  have HF2 := Aside0.mk hF2
  have HFEW := Aside0.mk (fun (W : World) (hb : Below w.heap.size w W) => gramaryelaw11_few.calls k a0_0 a0_1 A0_2 c0_2 l0_2 A0_3 c0_3 l0_3 t lk o L W (Kd.C_below hr0_2 hb) hc0_2 (Kd.C_below hr0_3 hb) hc0_3 hF1)
  clear hF1 hF2 hN hE hM h5 hr0_2 hr0_3 hc0_2 hc0_3
  go_enter Try.func9, Try.ntmps9
  go_wp2_with fail
  refine (HFEW.out _ (below_alloc (Below.refl _ _) _)).mono ?_
  rintro e w1 ⟨v2, v3, rfl, hR2, hS3, hb⟩
  obtain ⟨A2, c2, hv2, l2, r2⟩ := Kd.R_reads hR2
  obtain ⟨A3, c3, hv3, l3, r3⟩ := Kd.S_reads hS3
  subst hv2 hv3
  have hbx : w1.heap[w.heap.size]? = some (.cells #[.int .i64 a0_0, .int .i64 a0_1, .slice A0_2 l0_2.length c0_2, .slice A0_3 l0_3.length c0_3] 25 (0, 0)) := (hb.block _ (by simp)).trans (hp_new rfl)
  have HB1 := Aside0.mk (below_step (below_alloc (Below.refl _ _) _) hb)
  have x0 : w1.cell? ⟨w.heap.size, 0, none⟩ = some (.int .i64 a0_0) := (blk_cell hbx 0).trans rfl
  have x1 : w1.cell? ⟨w.heap.size, 1, none⟩ = some (.int .i64 a0_1) := (blk_cell hbx 1).trans rfl
  have x2 : w1.cell? ⟨w.heap.size, 2, none⟩ = some (.slice A0_2 l0_2.length c0_2) := (blk_cell hbx 2).trans rfl
  have x3 : w1.cell? ⟨w.heap.size, 3, none⟩ = some (.slice A0_3 l0_3.length c0_3) := (blk_cell hbx 3).trans rfl
  have f0 := blk_frozen hbx 0
  have f1 := blk_frozen hbx 1
  have f2 := blk_frozen hbx 2
  have f3 := blk_frozen hbx 3
  have HBX := Aside0.mk hbx
  have HL2 := Aside0.mk l2
  have HL3 := Aside0.mk l3
  have HS3 := Aside0.mk hS3
  have HRR2 := Aside0.mk hR2
  clear r2 r3 l2 l3 hbx hb HFEW hR2 hS3
  go_upto_region 2 with (fail)
  obtain ⟨W2, hW2⟩ : ∃ W2, W2 = (((w1.setCell ⟨w.heap.size, 0, none⟩ (.int .i64 t)).setCell ⟨w.heap.size, 1, none⟩ (.int .i64 lk)).setCell ⟨w.heap.size, 2, none⟩ (.slice A2 o.length c2)).setCell ⟨w.heap.size, 3, none⟩ (.slice A3 L.length c3) := ⟨_, rfl⟩
  have hbk : W2.heap[w.heap.size]? = some (.cells #[.int .i64 t, .int .i64 lk, .slice A2 o.length c2, .slice A3 L.length c3] 25 (0, 0)) := by
    rw [hW2]
    refine blk_put (cs := #[.int .i64 t, .int .i64 lk, .slice A2 o.length c2, .slice A0_3 l0_3.length c0_3]) ?_ 3 _ rfl
    refine blk_put (cs := #[.int .i64 t, .int .i64 lk, .slice A0_2 l0_2.length c0_2, .slice A0_3 l0_3.length c0_3]) ?_ 2 _ rfl
    refine blk_put (cs := #[.int .i64 t, .int .i64 a0_1, .slice A0_2 l0_2.length c0_2, .slice A0_3 l0_3.length c0_3]) ?_ 1 _ rfl
    refine blk_put (cs := #[.int .i64 a0_0, .int .i64 a0_1, .slice A0_2 l0_2.length c0_2, .slice A0_3 l0_3.length c0_3]) ?_ 0 _ rfl
    exact HBX.out
  have hstep : ∀ k, w.heap.size + 1 ≤ k → W2.heap[k]? = w1.heap[k]? := by
    intro k hk
    rw [hW2, Below.heap_setCell _ ⟨w.heap.size, 3, none⟩ _ _ (by show k ≠ w.heap.size; omega), Below.heap_setCell _ ⟨w.heap.size, 2, none⟩ _ _ (by show k ≠ w.heap.size; omega), Below.heap_setCell _ ⟨w.heap.size, 1, none⟩ _ _ (by show k ≠ w.heap.size; omega), Below.heap_setCell _ ⟨w.heap.size, 0, none⟩ _ _ (by show k ≠ w.heap.size; omega)]
  have hr2 := (Kd.R_reads' (Kd.R_step (Kd.R_mono (ok' := fun k => w.heap.size + 1 ≤ k) (Kd.R_bound HRR2.out) (fun k hk => by have := hk.2.1; simpa using this)) (fun k hk _ => hstep k hk))).2.2
  have hr3 := (Kd.R_reads' (Kd.R_step (Kd.R_mono (ok' := fun k => w.heap.size + 1 ≤ k) (Kd.R_bound (Kd.S_R HS3.out)) (fun k hk => by have := hk.2.1; simpa using this)) (fun k hk _ => hstep k hk))).2.2
  have HB2 := Aside0.mk (show Below w.heap.size w W2 by rw [hW2]; exact below_set (below_set (below_set (below_set HB1.out (Nat.le_refl _)) (Nat.le_refl _)) (Nat.le_refl _)) (Nat.le_refl _))
  have HFW := Aside0.mk (fun (W : World) (hb : Below W2.heap.size W2 W) => gramaryelaw11_few.calls k t lk A2 c2 o A3 c3 L t' lk' o' L' W (Kd.C_below hr2 hb) HL2.out (Kd.C_below hr3 hb) HL3.out HF2.out)
  have HMAY := Aside0.mk (fun (W : World) (hb : Below W2.heap.size W2 W) => gramaryeref09_May.calls k t lk A2 c2 o A3 c3 L m W (Kd.C_below hr2 hb) HL2.out (Kd.C_below hr3 hb) HL3.out HM.out)
  have HREA := Aside0.mk (fun (W : World) (hb : Below W2.heap.size W2 W) (z : List Bool) hz => gramaryeref11_Reached.calls k t lk A2 c2 o A3 c3 L z W (Kd.C_below hr2 hb) HL2.out (Kd.C_below hr3 hb) HL3.out hz)
  have HDEA := Aside0.mk (fun (W : World) (hb : Below W2.heap.size W2 W) (z : List Int) hz => gramaryeref11_Dead.calls k t lk A2 c2 o A3 c3 L z W (Kd.C_below hr2 hb) HL2.out (Kd.C_below hr3 hb) HL3.out hz)
  have hy : W2.cell? ⟨w.heap.size, 0, none⟩ = some (.int .i64 t) ∧ W2.cell? ⟨w.heap.size, 1, none⟩ = some (.int .i64 lk) ∧ W2.cell? ⟨w.heap.size, 2, none⟩ = some (.slice A2 o.length c2) ∧ W2.cell? ⟨w.heap.size, 3, none⟩ = some (.slice A3 L.length c3) := ⟨(blk_cell hbk 0).trans rfl, (blk_cell hbk 1).trans rfl, (blk_cell hbk 2).trans rfl, (blk_cell hbk 3).trans rfl⟩
  have HY := Aside0.mk hy
  obtain ⟨y0, y1, y2, y3⟩ := hy
  rw [← hW2]
  clear hW2 hbk hstep x0 x1 x2 x3 f0 f1 f2 f3 HBX HS3 HRR2 HB1 HF2 HM hr2 hr3
  go_wp2_with fail
  refine (HFW.out _ (Below.refl _ _)).mono ?_
  rintro e W5 ⟨u6, v6, rfl, hR6, hS6, hb6⟩
  obtain ⟨A6, c6, hu6, l6, r6⟩ := Kd.R_reads hR6
  obtain ⟨D6, d6, hv6, m6, s6⟩ := Kd.S_reads hS6
  subst hu6 hv6
  have HX := Aside0.mk (reach_Reached.calls t' lk' A6 c6 o' D6 d6 L' x xe W5 r6 l6 s6 m6 HN.out)
  have HY5 := Aside0.mk (mv4 HY.out hb6)
  have HB5 := Aside0.mk hb6
  clear hR6 hS6 hb6 r6 s6 m6 l6 y0 y1 y2 y3 HY
  go_wp2_with fail
  refine HX.out.mono ?_
  rintro e W6 ⟨vx, rfl, hRx, hbx⟩
  obtain ⟨Ax, cx, hvx, lx, rx⟩ := Kd.R_reads hRx
  subst hvx
  have HCX := Aside0.mk rx
  have HLX := Aside0.mk lx
  have HB6 := Aside0.mk (below_step HB5.out hbx)
  have HY6 := Aside0.mk (mv4 HY5.out hbx)
  obtain ⟨y0, y1, y2, y3⟩ := HY6.out
  clear HX hRx hbx rx lx HB5 HY5 HN
  go_wp2_with fail
  refine (HFW.out _ HB6.out).mono ?_
  rintro e W7 ⟨u8, v8, rfl, hR8, hS8, hb8⟩
  obtain ⟨A8, c8, hu8, l8, r8⟩ := Kd.R_reads hR8
  obtain ⟨D8, d8, hv8, m8, s8⟩ := Kd.S_reads hS8
  subst hu8 hv8
  have HX := Aside0.mk (reach_Dead.calls k t' lk' A8 c8 o' D8 d8 L' y ye W7 r8 l8 s8 m8 HE.out)
  have HY7 := Aside0.mk (mv4 HY6.out hb8)
  have HB7 := Aside0.mk (below_step HB6.out hb8)
  have HCX7 := Aside0.mk (Kd.C_below HCX.out hb8)
  clear hR8 hS8 hb8 r8 s8 m8 l8 y0 y1 y2 y3 HY6 HB6 HCX
  go_wp2_with fail
  refine HX.out.mono ?_
  rintro e W8 ⟨vy, rfl, hRy, hby⟩
  obtain ⟨Ay, cy, hvy, ly, ry⟩ := Kd.R_reads hRy
  subst hvy
  have HCY := Aside0.mk ry
  have HLY := Aside0.mk ly
  have HB8 := Aside0.mk (below_step HB7.out hby)
  have HY8 := Aside0.mk (mv4 HY7.out hby)
  have HCX8 := Aside0.mk (Kd.C_below HCX7.out hby)
  obtain ⟨y0, y1, y2, y3⟩ := HY8.out
  have hxl := HCX8.out.2.1
  have hyl := HCY.out.2.1
  clear HX hRy hby ry ly HB7 HY7 HCX7 HE HFW
  go_wp2_with fail
  refine (HMAY.out _ HB8.out).mono ?_
  rintro e W9 ⟨rfl, hb9⟩
  have HB9 := Aside0.mk (below_step HB8.out hb9)
  have HY9 := Aside0.mk (mv4 HY8.out hb9)
  have HCX9 := Aside0.mk (Kd.C_below HCX8.out hb9)
  have HCY9 := Aside0.mk (Kd.C_below HCY.out hb9)
  clear hb9 y0 y1 y2 y3 HY8 HB8 HCX8 HCY HMAY
  have hg := H.out
  unfold gramaryelaw11_ReachTells.g at hg
  simp only at hg
  clear H
  by_cases hm0 : m = 0
  · rw [if_pos hm0] at hg
    subst hm0
    obtain ⟨z, hz, hg1⟩ := Option.bind_eq_some_iff.1 hg
    obtain ⟨y0, y1, y2, y3⟩ := HY9.out
    have HZ := Aside0.mk (HREA.out _ HB9.out z hz)
    clear hg hz HREA
    have HG1 := Aside0.mk hg1
    clear hg1
    go_wp2_with fail
    refine HZ.out.mono ?_
    rintro e W10 ⟨vz, rfl, hRz, hbz⟩
    obtain ⟨Az, cz, hvz, lz, rz⟩ := Kd.R_reads hRz
    subst hvz
    have HCZ := Aside0.mk rz
    have HLZ := Aside0.mk lz
    have HB10 := Aside0.mk (below_step HB9.out hbz)
    have HY10 := Aside0.mk (mv4 HY9.out hbz)
    have HCX10 := Aside0.mk (Kd.C_below HCX9.out hbz)
    have HCY10 := Aside0.mk (Kd.C_below HCY9.out hbz)
    have hzl := HCZ.out.2.1
    clear HZ hRz hbz lz rz y0 y1 y2 y3 HB9 HY9 HCX9 HCY9
    have hg := HG1.out
    clear HG1
    by_cases hok : xe = 0 ∧ ye = 0 ∧ x.length = z.length
    · rw [if_pos hok] at hg
      obtain ⟨rfl, rfl, hlen⟩ := hok
      have HG := Aside0.mk hg
      have hlz : ((x.length : Int) != (z.length : Int)) = false := by rw [hlen]; simp
      have hlz2 : decide ((x.length : Int) ≠ (z.length : Int)) = false := by rw [hlen]; simp
      have hlz3 : decide ((x.length : Int) = (z.length : Int)) = true := by rw [hlen]; simp
      have hlz4 : ((x.length : Int) == (z.length : Int)) = true := by rw [hlen]; simp
      have HLEN := Aside0.mk hlen
      clear hg hlen
      go_wp2_with fail
      have HBW := Aside0.mk (Drawn0.refl W10)
      go_loopg [9] z.length (fun gg v9 wr => ∃ i : Nat, i ≤ z.length ∧ z.length - i ≤ gg ∧ v9 = .int .i64 i ∧ Aside0 (x.take i = z.take i) ∧ Drawn0 W10 wr)
      case atStart => exact ⟨0, Nat.zero_le _, by omega, rfl, ⟨by simp⟩, HBW.out⟩
      case round =>
        clear HBW
        obtain ⟨i, hi, hgg, rfl, HT, HD⟩ := hrel
        have HD := Aside0.mk HD
        by_cases hlt : i < z.length
        · have hltz : (i : Int) < (z.length : Int) := by omega
          have hltx : (i : Int) < (x.length : Int) := by have := HLEN.out; omega
          obtain ⟨adx, ex, hx⟩ := Kd.at_bool (Kd.C_below HCX10.out HD.out.below) (i : Int) (by omega) hltx
          obtain ⟨adz, ez, hz⟩ := Kd.at_bool (Kd.C_below HCZ.out HD.out.below) (i : Int) (by omega) hltz
          subst ex ez
          rw [Int.toNat_natCast] at hx hz
          have hbx : rdOf false x (i : Int) = x[i]'(by omega) := by unfold rdOf; rw [Int.toNat_natCast, List.getD_eq_getElem?_getD, List.getElem?_eq_getElem (by omega)]; rfl
          have hbz : rdOf false z (i : Int) = z[i]'(by omega) := by unfold rdOf; rw [Int.toNat_natCast, List.getD_eq_getElem?_getD, List.getElem?_eq_getElem (by omega)]; rfl
          have HT1 := Aside0.mk (show rdOf false x (i : Int) = rdOf false z (i : Int) → x.take (i + 1) = z.take (i + 1) from fun e => by
            rw [List.take_succ_eq_append_getElem (by omega), List.take_succ_eq_append_getElem (by omega), HT.out, ← hbx, ← hbz, e])
          have HT2 := Aside0.mk (show rdOf false x (i : Int) ≠ rdOf false z (i : Int) → x ≠ z from fun h e => h (by rw [e]))
          clear hbx hbz HT
          generalize rdOf false x (i : Int) = bx at hx HT1 HT2
          generalize rdOf false z (i : Int) = bz at hz HT1 HT2
          by_cases e : bx = bz
          · subst e
            have HT3 := Aside0.mk (HT1.out rfl)
            have e1 : (bx != bx) = false := by simp
            clear HT1 HT2
            go_wp2_with fail
            go_quiet (fail)
            have HD2 := Aside0.mk (HD.out.step nq)
            go_wp2_with fail
            go_roundg (z.length - (i + 1))
            case measure => omega
            case rel => exact ⟨i + 1, by omega, by omega, by go_num, HT3, HD2.out⟩
          · have hxz := HT2.out e
            have hg := HG.out
            rw [if_neg hxz] at hg
            obtain rfl : false = r := by simpa using hg
            clear HT1 HT2 hxz hg HG
            cases bx <;> cases bz
            · exact absurd rfl e
            · clear e
              go_wp2_with fail
              go_quiet (fail)
              go_wp2_with fail
              go_ret
              exact ⟨rfl, below_step HB2.out (below_step HB10.out (HD.out.step nq).below)⟩
            · clear e
              go_wp2_with fail
              go_quiet (fail)
              go_wp2_with fail
              go_ret
              exact ⟨rfl, below_step HB2.out (below_step HB10.out (HD.out.step nq).below)⟩
            · exact absurd rfl e
        · have hltz : ¬ (i : Int) < (z.length : Int) := by omega
          have e := HT.out
          rw [List.take_of_length_le (by have := HLEN.out; omega), List.take_of_length_le (by omega)] at e
          have hg := HG.out
          rw [if_pos e] at hg
          obtain ⟨d, hd, hg1⟩ := Option.bind_eq_some_iff.1 hg
          obtain ⟨s, hs, hg2⟩ := Option.bind_eq_some_iff.1 hg1
          clear hg hg1 HT HLEN HG e hlz hlz2 hlz3 hlz4
          have HY11 := Aside0.mk (mv4 HY10.out HD.out.below)
          have HB11 := Aside0.mk (below_step HB10.out HD.out.below)
          have HCY11 := Aside0.mk (Kd.C_below HCY10.out HD.out.below)
          obtain ⟨y0, y1, y2, y3⟩ := HY11.out
          have HDD := Aside0.mk (HDEA.out _ HB11.out d hd)
          clear hd HDEA HY10 HB10 HCY10 HD
          go_wp2_with fail
          refine HDD.out.mono ?_
          rintro e W12 ⟨vd, rfl, hRd, hbd⟩
          obtain ⟨Ad, cd, hvd, ld, rd'⟩ := Kd.R_reads hRd
          subst hvd
          have HB12 := Aside0.mk (below_step HB11.out hbd)
          have HS := Aside0.mk (gramaryebase_SameInts.calls k Ay cy y Ad cd d s W12 (Kd.C_below HCY11.out hbd) HLY.out rd' ld hs)
          clear HDD hRd hbd ld rd' hs HB11 HCY11 HY11 y0 y1 y2 y3
          go_wp2_with fail
          refine HS.out.mono ?_
          rintro e W13 ⟨rfl, hd13⟩
          have HB13 := Aside0.mk (below_step HB12.out hd13.below)
          clear HS HB12 hd13
          cases s with
          | true =>
            rw [if_pos rfl] at hg2
            go_wp2_with fail
            refine (gramaryelaw11_works.calls k r _ hg2).mono ?_
            rintro e WW ⟨rfl, hbw⟩
            have HBW := Aside0.mk (below_step HB2.out (below_step HB13.out hbw))
            clear hbw
            go_wp2_with fail
            go_ret
            exact ⟨rfl, HBW.out⟩
          | false =>
            rw [if_neg (by decide)] at hg2
            obtain rfl : false = r := by simpa using hg2
            go_wp2_with fail
            go_ret
            exact ⟨rfl, below_step HB2.out HB13.out⟩
    · rw [if_neg hok] at hg
      obtain rfl : false = r := by simpa using hg
      have HBF := Aside0.mk (below_step HB2.out HB10.out)
      clear hg
      by_cases hx0 : xe = 0
      · subst hx0
        by_cases hy0 : ye = 0
        · subst hy0
          have hne : x.length ≠ z.length := fun e => hok ⟨rfl, rfl, e⟩
          have e1 : ((x.length : Int) != (z.length : Int)) = true := bne_iff_ne.mpr (by omega)
          have e2 : decide ((x.length : Int) ≠ (z.length : Int)) = true := decide_eq_true (by omega)
          have e3 : ((x.length : Int) == (z.length : Int)) = false := beq_eq_false_iff_ne.2 (by omega)
          have e4 : decide ((x.length : Int) = (z.length : Int)) = false := decide_eq_false (by omega)
          clear hok hne
          go_wp2_with fail
          go_ret
          exact ⟨rfl, HBF.out⟩
        · have e1 : (ye != 0) = true := bne_iff_ne.mpr hy0
          have e2 : decide (ye ≠ 0) = true := decide_eq_true hy0
          have e3 : (ye == 0) = false := beq_eq_false_iff_ne.2 hy0
          have e4 : decide (ye = 0) = false := decide_eq_false hy0
          clear hok hy0
          go_wp2_with fail
          go_ret
          exact ⟨rfl, HBF.out⟩
      · have e1 : (xe != 0) = true := bne_iff_ne.mpr hx0
        have e2 : decide (xe ≠ 0) = true := decide_eq_true hx0
        have e3 : (xe == 0) = false := beq_eq_false_iff_ne.2 hx0
        have e4 : decide (xe = 0) = false := decide_eq_false hx0
        clear hok hx0
        go_wp2_with fail
        go_ret
        exact ⟨rfl, HBF.out⟩
  · rw [if_neg hm0] at hg
    have m1 : (m != 0) = true := bne_iff_ne.mpr hm0
    have m2 : decide (m ≠ 0) = true := decide_eq_true hm0
    have HBF := Aside0.mk (below_step HB2.out HB9.out)
    clear hm0
    by_cases hx0 : xe = m
    · subst hx0
      by_cases hy0 : ye = xe
      · subst hy0
        by_cases hz0 : wrap64 ((x.length : Int) + (y.length : Int)) = 0
        · rw [if_pos ⟨rfl, rfl, hz0⟩] at hg
          have e8 : (wrap64 ((x.length : Int) + (y.length : Int)) == 0) = true := beq_iff_eq.2 hz0
          have e9 : decide (wrap64 ((x.length : Int) + (y.length : Int)) = 0) = true := decide_eq_true hz0
          clear hz0
          go_wp2_with fail
          refine (gramaryelaw11_works.calls k r _ hg).mono ?_
          rintro e WW ⟨rfl, hbw⟩
          have HBW := Aside0.mk (below_step HBF.out hbw)
          clear hbw
          go_wp2_with fail
          go_ret
          exact ⟨rfl, HBW.out⟩
        · rw [if_neg (fun h => hz0 h.2.2)] at hg
          obtain rfl : false = r := by simpa using hg
          have e8 : (wrap64 ((x.length : Int) + (y.length : Int)) == 0) = false := beq_eq_false_iff_ne.2 hz0
          have e9 : decide (wrap64 ((x.length : Int) + (y.length : Int)) = 0) = false := decide_eq_false hz0
          clear hz0 hg
          go_wp2_with fail
          go_ret
          exact ⟨rfl, HBF.out⟩
      · rw [if_neg (fun h => hy0 h.2.1)] at hg
        obtain rfl : false = r := by simpa using hg
        have e6 : (ye == xe) = false := beq_eq_false_iff_ne.2 hy0
        have e7 : decide (ye = xe) = false := decide_eq_false hy0
        clear hy0 hg
        go_wp2_with fail
        go_ret
        exact ⟨rfl, HBF.out⟩
    · rw [if_neg (fun h => hx0 h.1)] at hg
      obtain rfl : false = r := by simpa using hg
      have e6 : (xe == m) = false := beq_eq_false_iff_ne.2 hx0
      have e7 : decide (xe = m) = false := decide_eq_false hx0
      clear hx0 hg
      go_wp2_with fail
      go_ret
      exact ⟨rfl, HBF.out⟩
end Go.Proofs.Ytmpdilifoblnaaa.MReachTells
end
section
namespace Go.Proofs.Ytmpdilifoblnaaa.MReachTells
open Go.RowKit Go.Proofs.YtmpdilifoblnaaaW.PrintWords Go.Proofs.Ytmpdilifoblnaaa.Reads
set_option linter.unusedVariables false
def Good59 (x : S59) : Prop := (True) ∧ ((Lit.int .i64 x.f1).wf = true)
theorem fits59 : Fits Try.prog k59 Good59 59 :=
  fits_iso (fun x : S59 => (x.f0, x.f1)) (fun x_ => ⟨x_.1, x_.2⟩) (fun _ => rfl) (fits_struct Try.underlying59 (by kernel_rfl) (fitsF_cons 0 (fits_bool Try.prog Try.underlying4) rfl (by kernel_rfl) (fitsF_one 1 (fits_int Try.prog .i64 Try.underlying3) rfl (by kernel_rfl))))
def Good51 (x : S51) : Prop := ((Lit.int .i64 x.f0).wf = true) ∧ (x.f1.length * 16 ≤ 140737488351232 ∧ x.f1.length ≤ 9223372036854775807 ∧ ∀ x_ ∈ x.f1, Good59 x_)
theorem fits51 : Fits Try.prog k51 Good51 51 :=
  fits_iso (fun x : S51 => (x.f0, x.f1)) (fun x_ => ⟨x_.1, x_.2⟩) (fun _ => rfl) (fits_struct Try.underlying51 (by kernel_rfl) (fitsF_cons 0 (fits_int Try.prog .i64 Try.underlying3) rfl (by kernel_rfl) (fitsF_one 1 (fits_slice 59 16 Try.underlying38 (by kernel_rfl) (by kernel_rfl) fits59) rfl (by kernel_rfl))))
def gramaryelaw11_ReachTells.PureG : Prop := ∀ (a0_0 : Int) (a0_1 : Int) (l0_2 : List Int) (l0_3 : List (S51)), ((Lit.int .i64 a0_0).wf = true) → ((Lit.int .i64 a0_1).wf = true) → (l0_2.length * 8 ≤ 140737488351232 ∧ l0_2.length ≤ 9223372036854775807 ∧ ∀ x_ ∈ l0_2, (Lit.int .i64 x_).wf = true) → (l0_3.length * 32 ≤ 140737488351232 ∧ l0_3.length ≤ 9223372036854775807 ∧ ∀ x_ ∈ l0_3, Good51 x_) → ∃ k, gramaryelaw11_ReachTells.f k a0_0 a0_1 l0_2 l0_3 = some true
end Go.Proofs.Ytmpdilifoblnaaa.MReachTells
end
section
namespace Go.Proofs.Ytmpdilifoblnaaa.Pure
open Go.RowKit Go.Proofs.Ytmpdilifoblnaaa.MReachTells Go.Proofs.YtmpdilifoblnaaaW.PrintWords Go.Proofs.YtmpdilifoblnaaaW.PrintLast Go.Proofs.YtmpdilifoblnaaaW.PrintMore Go.Proofs.Ytmpdilifoblnaaa.Base Go.Proofs.Ytmpdilifoblnaaa.Fix Go.Proofs.Ytmpdilifoblnaaa.Mem
set_option linter.unusedSimpArgs false
set_option linter.unusedVariables false
theorem rd51 (L : List S51) (i : Nat) (h : i < L.length) : rd_T51 L (i : Int) = L[i] := by
  unfold rd_T51
  rw [Int.toNat_natCast, List.getD_eq_getElem?_getD, List.getElem?_eq_getElem h]; rfl
theorem rd59 (L : List S59) (i : Nat) (h : i < L.length) : rd_T59 L (i : Int) = L[i] := by
  unfold rd_T59
  rw [Int.toNat_natCast, List.getD_eq_getElem?_getD, List.getElem?_eq_getElem h]; rfl
theorem w1 (i : Nat) (h : i < 1000000000) : wrap64 ((i : Int) + 1) = ((i + 1 : Nat) : Int) := by rw [w64 (by omega) (by omega)]; omega
theorem mn_nat (a b : Nat) : mn (a : Int) (b : Int) = ((min a b : Nat) : Int) := by unfold mn; split <;> omega
def cut8 (p : S51) : S51 := ⟨p.f0, p.f1.take 8⟩
theorem few_l0 (P : Nat) (hP : P ≤ 1000) (t l : Int) (o o' : List Int) (L : List S51) (d : Nat) : ∀ (k i : Nat) (acc : List S51), i + d = min P L.length → d < k → acc = (L.take i).map cut8 →
    gramaryeref09_Few.l0 k (P : Int) (i : Int) t l o L t l o' acc = some (t, l, o', (L.take P).map cut8) := by
  induction d with
  | zero =>
    intro k i acc h1 h2 h3
    obtain ⟨k, rfl⟩ : ∃ m, k = m + 1 := ⟨k - 1, by omega⟩
    have e : L.take i = L.take P := by
      rcases Nat.le_total P L.length with h | h
      · rw [show i = P by omega]
      · rw [List.take_of_length_le (by omega), List.take_of_length_le (by omega)]
    rw [gramaryeref09_Few.l0]
    by_cases hi : (i : Int) < (L.length : Int)
    · rw [if_pos hi, if_neg (by omega), h3, e]
    · rw [if_neg hi, h3, e]
  | succ d ih =>
    intro k i acc h1 h2 h3
    obtain ⟨k, rfl⟩ : ∃ m, k = m + 1 := ⟨k - 1, by omega⟩
    have hi : i < L.length := by omega
    have hal : acc.length = i := by rw [h3, List.length_map, List.length_take]; omega
    have hm : mn ((L[i].f1.length : Nat) : Int) 8 = ((min L[i].f1.length 8 : Nat) : Int) := mn_nat _ 8
    have ht : L[i].f1.take (min L[i].f1.length 8) = L[i].f1.take 8 := by
      rcases Nat.le_total L[i].f1.length 8 with h | h
      · rw [Nat.min_eq_left h, List.take_of_length_le (Nat.le_refl _), List.take_of_length_le h]
      · rw [Nat.min_eq_right h]
    rw [gramaryeref09_Few.l0, if_pos (by omega), if_pos (by omega), if_pos (by omega), rd51 L i hi]
    simp only [Option.bind_some]
    rw [hm, if_pos (by omega), if_pos (by omega)]
    simp only [Option.bind_some, Int.toNat_natCast, List.length_nil, List.nil_append]
    have hl8 : (L[i].f1.take (min L[i].f1.length 8)).length ≤ 8 := by rw [List.length_take]; omega
    rw [if_pos (by omega), if_pos (by omega), w1 i (by omega), ht]
    refine ih k (i + 1) _ (by omega) (by omega) ?_
    rw [List.take_succ_eq_append_getElem hi, List.map_append, h3]
    rfl
theorem ints_is (l : List Int) (h : l.length ≤ 1000000) : gramaryebase_Ints.f l = some l := by
  unfold gramaryebase_Ints.f
  simp only [Option.bind_some, List.nil_append]
  rw [if_pos (by simp only [List.length_nil]; omega)]
theorem few_is (N P : Nat) (hN : N ≤ 1000) (hP : P ≤ 1000) (t l : Int) (o : List Int) (L : List S51) (k : Nat) (hk : P < k) :
    gramaryeref09_Few.f k t l o L (N : Int) (P : Int) = some (t, l, o.take N, (L.take P).map cut8) := by
  unfold gramaryeref09_Few.f
  rw [mn_nat, if_pos (by omega), if_pos (by omega)]
  simp only [Int.toNat_natCast]
  have ht : o.take (min o.length N) = o.take N := by
    rcases Nat.le_total o.length N with h | h
    · rw [Nat.min_eq_left h, List.take_of_length_le (Nat.le_refl _), List.take_of_length_le h]
    · rw [Nat.min_eq_right h]
  rw [ht, ints_is _ (by rw [List.length_take]; omega)]
  simp only [Option.bind_some]
  exact few_l0 P hP t l o (o.take N) L (min P L.length) k 0 [] (by omega) (by omega) rfl
theorem cut8_cut8 (p : S51) : cut8 (cut8 p) = cut8 p := by unfold cut8; simp only [List.take_take, Nat.min_self]
theorem few_again (P : Nat) (L : List S51) : (((L.take P).map cut8).take P).map cut8 = (L.take P).map cut8 := by
  rw [List.take_of_length_le (by simp; omega), List.map_map]
  congr 1
  funext p
  exact cut8_cut8 p
structure Small (N P : Nat) (o : List Int) (L : List S51) : Prop where
  o : o.length ≤ N
  l : L.length ≤ P
  r : ∀ p ∈ L, p.f1.length ≤ 8
theorem few_small (N P : Nat) (o : List Int) (L : List S51) : Small N P (o.take N) ((L.take P).map cut8) :=
  ⟨by rw [List.length_take]; omega, by simp; omega, fun p hp => by
    obtain ⟨q, _, rfl⟩ := List.mem_map.1 hp
    unfold cut8; simp; omega⟩
theorem may_l2 (t l : Int) (o : List Int) (L : List S51) (pos : Int) (x0 : Int) (r : List S59) (hr : r.length ≤ 1000) (d : Nat) : ∀ (k i : Nat), i + d = r.length →
    gramaryeref09_May.l2 (k + d + 1) pos (i : Int) t l o L x0 r = if (r.drop i).any (fun s => !bnf_symB t o.length s) = true then some 4 else gramaryeref09_May.l1 k (wrap64 (pos + 1)) t l o L := by
  induction d with
  | zero =>
    intro k i h1
    rw [gramaryeref09_May.l2, if_neg (by omega), List.drop_of_length_le (by omega)]
    rfl
  | succ d ih =>
    intro k i h1
    have hi : i < r.length := by omega
    have hs := rd59 r i hi
    have ih' := ih k (i + 1) (by omega)
    rw [show k + (d + 1) + 1 = (k + d + 1) + 1 by omega, gramaryeref09_May.l2, if_pos (by omega), if_pos (by omega), hs, w1 i (by omega), ih', List.drop_eq_getElem_cons hi, List.any_cons]
    generalize (List.drop (i + 1) r).any (fun s => !bnf_symB t o.length s) = q
    obtain ⟨tok, x⟩ := r[i]
    unfold bnf_symB
    cases tok with
    | true =>
      simp only [if_true]
      by_cases h1 : x < 1
      · rw [if_pos h1, decide_eq_false (by omega)]; simp
      · rw [if_neg h1]
        by_cases h2 : x > t
        · rw [if_pos h2, decide_eq_false (by omega)]; simp
        · rw [if_neg h2, decide_eq_true (by omega)]; simp
    | false =>
      simp only [Bool.false_eq_true, if_false]
      by_cases h1 : x < 0
      · rw [if_pos h1, decide_eq_false (by omega)]; simp
      · rw [if_neg h1]
        by_cases h2 : x ≥ (o.length : Int)
        · rw [if_pos h2, decide_eq_false (by omega)]; simp
        · rw [if_neg h2, decide_eq_true (by omega)]; simp
theorem may_l1 (t l : Int) (o : List Int) (L : List S51) (hL : L.length ≤ 1000) (hr : ∀ p ∈ L, p.f1.length ≤ 8) (d : Nat) : ∀ (k i : Nat), i + d = L.length → 12 * d < k →
    gramaryeref09_May.l1 k (i : Int) t l o L = some (if (L.drop i).any (fun p => !bnf_prodB t o.length p) = true then 4 else 0) := by
  induction d with
  | zero =>
    intro k i h1 h2
    obtain ⟨k, rfl⟩ : ∃ m, k = m + 1 := ⟨k - 1, by omega⟩
    rw [gramaryeref09_May.l1, if_neg (by omega), List.drop_of_length_le (by omega)]
    rfl
  | succ d ih =>
    intro k i h1 h2
    have hi : i < L.length := by omega
    have hp8 := hr L[i] (List.getElem_mem hi)
    obtain ⟨k, rfl⟩ : ∃ m, k = m + L[i].f1.length + 1 + 2 := ⟨k - (L[i].f1.length + 3), by omega⟩
    rw [gramaryeref09_May.l1, if_pos (by omega), if_pos (by omega), rd51 L i hi, List.drop_eq_getElem_cons hi, List.any_cons]
    have hl2 := may_l2 t l o L (i : Int) L[i].f0 L[i].f1 (by omega) L[i].f1.length k 0 (by omega)
    rw [w1 i (by omega), ih k (i + 1) (by omega) (by omega), List.drop_zero, show ((0 : Nat) : Int) = 0 from rfl] at hl2
    by_cases h0 : L[i].f0 < 0
    · have e : bnf_prodB t o.length L[i] = false := by unfold bnf_prodB; rw [decide_eq_false (by omega)]; rfl
      rw [if_pos h0, gramaryeref09_May.j4, if_pos rfl, e]; rfl
    · rw [if_neg h0, gramaryeref09_May.j4]
      by_cases h3 : L[i].f0 ≥ (o.length : Int)
      · have e : bnf_prodB t o.length L[i] = false := by unfold bnf_prodB; rw [decide_eq_false (show ¬ L[i].f0 < (o.length : Int) by omega)]; simp
        rw [if_pos (decide_eq_true h3), e]; rfl
      · have e : bnf_prodB t o.length L[i] = !(L[i].f1.any (fun s => !bnf_symB t o.length s)) := by
          unfold bnf_prodB
          rw [decide_eq_true (show 0 ≤ L[i].f0 by omega), decide_eq_true (show L[i].f0 < (o.length : Int) by omega), Bool.true_and, Bool.true_and]
        rw [if_neg (by simpa using h3), hl2, e]
        cases hq : L[i].f1.any (fun s => !bnf_symB t o.length s)
        · rfl
        · rfl
theorem may_l0 (t l : Int) (o : List Int) (L : List S51) (hL : L.length ≤ 1000) (hr : ∀ p ∈ L, p.f1.length ≤ 8) (d : Nat) : ∀ (k i : Nat), i + d = L.length → d + 12 * L.length + 3 < k →
    gramaryeref09_May.l0 k (i : Int) t l o L = some (if ¬ (1 ≤ l ∧ l ≤ 4) then 11 else if L.any (fun p => !bnf_prodB t o.length p) = true then 4 else 0) := by
  induction d with
  | zero =>
    intro k i h1 h2
    obtain ⟨k, rfl⟩ : ∃ m, k = m + 2 := ⟨k - 2, by omega⟩
    have hl1 := may_l1 t l o L hL hr L.length k 0 (by omega) (by omega)
    rw [List.drop_zero, show ((0 : Nat) : Int) = 0 from rfl] at hl1
    rw [gramaryeref09_May.l0, if_neg (by omega)]
    by_cases h : l < 1
    · rw [if_pos h, gramaryeref09_May.j2, if_pos rfl, if_pos (by omega)]
    · rw [if_neg h, gramaryeref09_May.j2]
      by_cases h4 : l > 4
      · rw [if_pos (decide_eq_true h4), if_pos (by omega)]
      · rw [if_neg (by simpa using h4), hl1, if_neg (show ¬ ¬ (1 ≤ l ∧ l ≤ 4) by omega)]
  | succ d ih =>
    intro k i h1 h2
    obtain ⟨k, rfl⟩ : ∃ m, k = m + 1 := ⟨k - 1, by omega⟩
    have hi : i < L.length := by omega
    have hp8 := hr L[i] (List.getElem_mem hi)
    rw [gramaryeref09_May.l0, if_pos (by omega), if_pos (by omega), rd51 L i hi, if_neg (by omega), w1 i (by omega)]
    exact ih k (i + 1) (by omega) (by omega)
theorem may_is {N P : Nat} (hN : N ≤ 400) (hP : P ≤ 1000) (t l : Int) (o : List Int) (L : List S51) (h : Small N P o L) (k : Nat) (hk : 20000 ≤ k) : gramaryeref09_May.f k t l o L = some (bnf_mayB t l o L) := by
  have hl := h.l
  have ho := h.o
  obtain ⟨k, rfl⟩ : ∃ m, k = m + 1 := ⟨k - 1, by omega⟩
  have h0 := may_l0 t l o L (by omega) h.r L.length k 0 (by omega) (by omega)
  rw [show ((0 : Nat) : Int) = 0 from rfl] at h0
  have hlong : ¬ (L.any bnf_longB = true) := by
    intro e
    obtain ⟨p, hp, hq⟩ := List.any_eq_true.1 e
    have := h.r p hp
    unfold bnf_longB at hq
    simp at hq
    omega
  unfold gramaryeref09_May.f bnf_mayB
  by_cases a1 : t < 1
  · rw [if_pos a1, gramaryeref09_May.j0, if_pos rfl, if_pos (.inl (by omega))]
  rw [if_neg a1]
  by_cases a2 : t > 60
  · rw [if_pos a2, gramaryeref09_May.j0, if_pos rfl, if_pos (.inl (by omega))]
  rw [if_neg a2]
  by_cases a3 : (o.length : Int) < 1
  · rw [if_pos a3, gramaryeref09_May.j0, if_pos rfl, if_pos (.inr (.inl (by omega)))]
  rw [if_neg a3, if_neg (by omega)]
  by_cases a4 : (L.length : Int) < 1
  · rw [if_pos a4, gramaryeref09_May.j0, if_pos rfl, if_pos (.inr (.inr (.inl (by omega))))]
  have hno : ¬ (¬ (1 ≤ t ∧ t ≤ 60) ∨ ¬ (1 ≤ o.length ∧ o.length ≤ 500) ∨ ¬ (1 ≤ L.length ∧ L.length ≤ 2000) ∨ L.any bnf_longB = true) := by
    rintro (h | h | h | h)
    · omega
    · omega
    · omega
    · exact hlong h
  rw [if_neg a4, gramaryeref09_May.j0, if_neg (by simp; omega), h0, if_neg hno]
theorem mem_occS {i n m : Int} {l : List S59} : (n, m) ∈ occS i l ↔ m = i ∧ ∃ s ∈ l, s.f0 = false ∧ s.f1 = n := by
  unfold occS
  rw [List.mem_map]
  constructor
  · rintro ⟨s, hs, e⟩
    rw [List.mem_filter] at hs
    simp only [Prod.mk.injEq] at e
    exact ⟨e.2.symm, s, hs.1, by simpa using hs.2, e.1⟩
  · rintro ⟨rfl, s, hs, h0, rfl⟩
    exact ⟨s, List.mem_filter.2 ⟨hs, by simp [h0]⟩, rfl⟩
theorem mem_occ {n m : Int} : ∀ (L : List S51) (i : Int), (n, m) ∈ occ i L ↔ ∃ j : Nat, ∃ h : j < L.length, m = i + j ∧ ∃ s ∈ (L[j]).f1, s.f0 = false ∧ s.f1 = n
  | [], i => by simp [occ]
  | p :: ps, i => by
    simp only [occ, List.mem_append, mem_occS, mem_occ ps (i + 1)]
    constructor
    · rintro (⟨rfl, h⟩ | ⟨j, hj, rfl, h⟩)
      · exact ⟨0, by simp, by omega, h⟩
      · exact ⟨j + 1, by simp; omega, by omega, h⟩
    · rintro ⟨j, hj, rfl, h⟩
      cases j with
      | zero => exact .inl ⟨by omega, h⟩
      | succ j => exact .inr ⟨j, by simp at hj; omega, by omega, h⟩
theorem mem_whoOf {L : List S51} {n m : Int} : m ∈ whoOf (occ 0 L) n ↔ ∃ j : Nat, ∃ h : j < L.length, m = (j : Int) ∧ ∃ s ∈ (L[j]).f1, s.f0 = false ∧ s.f1 = n := by
  unfold whoOf
  rw [List.mem_map]
  constructor
  · rintro ⟨⟨a, b⟩, h, rfl⟩
    rw [List.mem_filter] at h
    have e : a = n := by simpa using h.2
    subst e
    obtain ⟨j, hj, e, hs⟩ := (mem_occ L 0).1 h.1
    exact ⟨j, hj, by simpa using e, hs⟩
  · rintro ⟨j, hj, rfl, hs⟩
    exact ⟨(n, (j : Int)), List.mem_filter.2 ⟨(mem_occ L 0).2 ⟨j, hj, by omega, hs⟩, by simp⟩, rfl⟩
theorem whoOf_len (o : List (Int × Int)) (n : Int) : (whoOf o n).length ≤ o.length := by
  unfold whoOf
  rw [List.length_map]
  exact List.length_filter_le _ _
def InP (n : Nat) (L : List S51) : Prop := ∀ p ∈ L, 0 ≤ p.f0 ∧ p.f0 < (n : Int) ∧ ∀ s ∈ p.f1, SymOk n s
theorem may_inN {t l : Int} {o : List Int} {L : List S51} (h : bnf_mayB t l o L = 0) : InP o.length L := fun p hp =>
  ⟨((bnf_may_ok h).2.2.2 p hp).2.1, ((bnf_may_ok h).2.2.2 p hp).2.2.1, ((bnf_may_ok h).2.2.2 p hp).2.2.2⟩
def isOf (tok : Bool) (s : S59) (m : List Bool) : Bool := if s.f0 = true then tok else rdOf false m s.f1
theorem is_nothing : isNothing = isOf false := by
  funext s m
  unfold isNothing isOf
  cases s.f0 <;> simp
theorem is_ends : isEnds = isOf true := by
  funext s m
  unfold isEnds isOf
  cases s.f0 <;> simp
def stB (m : List Bool) : Nat → Nat := fun i => if m.getD i false = true then 0 else 1
def okU (tok : Bool) (u : Nat → Nat) (s : S59) : Bool := if s.f0 = true then tok else decide (u s.f1.toNat = 0)
def valB (tok : Bool) (l : List S59) (u : Nat → Nat) : Nat := if l.all (okU tok u) = true then 0 else 1
def psB (tok : Bool) (L : List S51) : List Pr := L.map fun p => (p.f0.toNat, valB tok p.f1)
theorem psB_length (tok : Bool) (L : List S51) : (psB tok L).length = L.length := by simp [psB]
theorem psB_get (tok : Bool) (L : List S51) (i : Nat) (h : i < L.length) (h' : i < (psB tok L).length) : (psB tok L)[i] = (L[i].f0.toNat, valB tok L[i].f1) := by simp [psB]
theorem getD_rdB (m : List Bool) (x : Int) : m.getD x.toNat false = rdOf false m x := rfl
theorem ok_is (tok : Bool) (m : List Bool) (s : S59) : okU tok (stB m) s = isOf tok s m := by
  unfold okU isOf stB
  rw [getD_rdB]
  by_cases h : s.f0 = true
  · rw [if_pos h, if_pos h]
  · rw [if_neg h, if_neg h]
    cases rdOf false m s.f1 <;> rfl
theorem valB_is (tok : Bool) (l : List S59) (m : List Bool) : valB tok l (stB m) = if l.any (fun s => !isOf tok s m) = true then 1 else 0 := by
  unfold valB
  have e : l.all (okU tok (stB m)) = !(l.any fun s => !isOf tok s m) := by
    rw [List.all_eq_not_any_not]
    congr 2
    funext s
    rw [ok_is]
  rw [e]
  cases l.any (fun s => !isOf tok s m) <;> rfl
theorem valB_mono (tok : Bool) (l : List S59) : Mono1 (valB tok l) := by
  intro u u' h
  unfold valB
  by_cases a : l.all (okU tok u') = true
  · rw [if_pos a, if_pos]
    · exact Nat.le_refl _
    rw [List.all_eq_true] at a ⊢
    intro s hs
    have := a s hs
    unfold okU at this ⊢
    by_cases ht : s.f0 = true
    · rw [if_pos ht] at this ⊢; exact this
    · rw [if_neg ht] at this ⊢
      have hu := h s.f1.toNat
      simp only [decide_eq_true_eq] at this ⊢
      omega
  · rw [if_neg a]
    split <;> omega
theorem allB_upd (tok : Bool) (u : Nat → Nat) (x y : Nat) (l : List S59) (h : ∀ s ∈ l, s.f0 = false → s.f1.toNat ≠ x) : l.all (okU tok (upd u x y)) = l.all (okU tok u) := by
  rw [Bool.eq_iff_iff, List.all_eq_true, List.all_eq_true]
  have e : ∀ s ∈ l, okU tok (upd u x y) s = okU tok u s := by
    intro s hs
    unfold okU
    by_cases ht : s.f0 = true
    · rw [if_pos ht, if_pos ht]
    · have := h s hs (by simpa using ht)
      rw [if_neg ht, if_neg ht, show upd u x y s.f1.toNat = u s.f1.toNat by unfold upd; rw [if_neg this]]
  exact ⟨fun a s hs => by rw [← e s hs]; exact a s hs, fun a s hs => by rw [e s hs]; exact a s hs⟩
theorem stB_set {m : List Bool} {x : Int} (h0 : 0 ≤ x) (h1 : x < (m.length : Int)) : stB (m.set x.toNat true) = upd (stB m) x.toNat 0 := by
  funext j
  have g : (m.set x.toNat true).getD j false = if x.toNat = j then true else m.getD j false := by
    rw [List.getD_eq_getElem?_getD, List.getD_eq_getElem?_getD, List.getElem?_set]
    by_cases e : x.toNat = j
    · subst e
      rw [if_pos rfl, if_pos rfl, if_pos (by omega)]; rfl
    · rw [if_neg e, if_neg e]
  show (if (m.set x.toNat true).getD j false = true then 0 else 1) = (if j = x.toNat then 0 else (if m.getD j false = true then 0 else 1))
  rw [g]
  by_cases e : x.toNat = j
  · rw [if_pos e, if_pos rfl, if_pos e.symm]
  · rw [if_neg e, if_neg (show ¬ j = x.toNat from fun h => e h.symm)]
def u0B : Nat → Nat := fun _ => 1
theorem stB_init (n : Nat) : stB (List.replicate n false) = u0B := by
  funext j
  unfold stB u0B
  rw [List.getD_eq_getElem?_getD, List.getElem?_replicate]
  split <;> rfl
theorem impB (tok : Bool) (l : List S59) (m : List Bool) (x : Int) : valB tok l (stB m) < stB m x.toNat ↔ rdOf false m x = false ∧ l.any (fun s => !isOf tok s m) = false := by
  rw [valB_is]
  unfold stB
  rw [getD_rdB]
  cases l.any (fun s => !isOf tok s m) <;> cases rdOf false m x <;> simp
theorem marks_ok (tok : Bool) {t l : Int} {o : List Int} {L : List S51} (hm : bnf_mayB t l o L = 0) (hs : Small 40 60 o L) :
    ∃ m, empty_marksF (isOf tok) t l o L = some (m, 0) ∧ m.length = o.length ∧ Above (psB tok L) u0B (stB m) ∧ Stable (psB tok L) (stB m) := by
  have hin := may_inN hm
  have hocc : (occ 0 L).length ≤ 500 * L.length := occ_len L 0 (fun p hp => by have := hs.r p hp; omega)
  have hl := hs.l
  have ho := hs.o
  have key : ∃ r, growG (isOf tok) (occ 0 L) L (L.length + o.length * (occ 0 L).length + 1) (List.replicate o.length false) (upTo L.length) = some r ∧ r.length = o.length ∧ Above (psB tok L) u0B (stB r) ∧ Stable (psB tok L) (stB r) := by
    refine work_ends (growG (isOf tok) (occ 0 L) L) stB (fun m => m.length = o.length) (psB tok L) (fun x => whoOf (occ 0 L) (x : Int)) o.length (occ 0 L).length 17592186044416 u0B ?_ ?_ ?_ ?_ ?_ ?_ ?_ _ _ _ ?_ ?_ ?_ ?_ ?_ ?_
    · intro p hp
      obtain ⟨q, _, rfl⟩ := List.mem_map.1 hp
      exact valB_mono tok q.f1
    · intro p hp
      obtain ⟨q, hq, rfl⟩ := List.mem_map.1 hp
      have := hin q hq
      show q.f0.toNat < o.length
      omega
    · intro x
      refine ⟨whoOf_len _ _, fun j hj => ?_⟩
      obtain ⟨j, hj, rfl, _⟩ := mem_whoOf.1 hj
      rw [psB_length]
      omega
    · intro j hj u x y hno
      have hj' : j < L.length := by rwa [psB_length] at hj
      rw [psB_get tok L j hj' hj]
      show valB tok _ _ = valB tok _ _
      unfold valB
      rw [allB_upd tok u x y L[j].f1 (fun s hs h0 e => hno (mem_whoOf.2 ⟨j, hj', rfl, s, hs, h0, by
        have := (hin _ (List.getElem_mem hj')).2.2 s hs h0
        omega⟩))]
    · intro k s; rfl
    · intro k m i hi rest hv himp
      have hi' : i < L.length := by rwa [psB_length] at hi
      rw [psB_get tok L i hi' hi] at himp
      obtain ⟨a0, a1, a2⟩ := hin _ (List.getElem_mem hi')
      simp only at himp
      rw [impB] at himp
      rw [growG, rd51 L i hi', if_pos ⟨by omega, by omega, a0, by omega⟩]
      cases h1 : rdOf false m L[i].f0 with
      | true => rw [if_pos rfl]
      | false =>
        rw [if_neg (by decide)]
        cases h2 : L[i].f1.any (fun s => !isOf tok s m) with
        | true => rw [if_pos rfl]
        | false => exact absurd ⟨h1, h2⟩ himp
    · intro k m i hi rest hv himp hroom
      have hi' : i < L.length := by rwa [psB_length] at hi
      rw [psB_get tok L i hi' hi] at himp hroom ⊢
      obtain ⟨a0, a1, a2⟩ := hin _ (List.getElem_mem hi')
      simp only at himp hroom ⊢
      have himp' := himp
      rw [impB] at himp
      rw [show ((L[i].f0.toNat : Nat) : Int) = L[i].f0 by omega] at hroom ⊢
      refine ⟨m.set L[i].f0.toNat true, by rw [List.length_set]; exact hv, ?_, ?_⟩
      · rw [stB_set a0 (by omega), valB_is, himp.2]; rfl
      · rw [growG, rd51 L i hi', if_pos ⟨by omega, by omega, a0, by omega⟩, himp.1, himp.2, if_neg (by decide), if_neg (by decide), if_pos hroom]
    · simp
    · rw [stB_init]; exact Above.init _ _
    · intro j hj
      unfold upTo at hj
      obtain ⟨i, hi, rfl⟩ := List.mem_map.1 hj
      rw [List.mem_range] at hi
      rw [psB_length]
      show 0 ≤ (i : Int) ∧ (i : Int) < _
      omega
    · intro j hj _
      rw [psB_length] at hj
      unfold upTo
      exact List.mem_map.2 ⟨j, List.mem_range.2 hj, rfl⟩
    · rw [upTo_length, stB_init]
      have h1 := tot_le (u := u0B) (b := 1) (fun i => Nat.le_refl _) o.length
      have h2 := Nat.mul_le_mul_right (occ 0 L).length h1
      rw [Nat.mul_one] at h2
      omega
    · have h3 : o.length * (occ 0 L).length ≤ 40 * 30000 := Nat.mul_le_mul ho (by omega)
      omega
  obtain ⟨r, h1, h2⟩ := key
  refine ⟨r, ?_, h2⟩
  unfold empty_marksF
  rw [if_pos hm, h1]
  rfl
theorem stateB_eq {v v' : List Bool} (hl : v.length = v'.length) (e : ∀ i, stB v i = stB v' i) : v = v' := by
  apply List.ext_getElem hl
  intro i h1 h2
  have := e i
  unfold stB at this
  rw [List.getD_eq_getElem?_getD, List.getD_eq_getElem?_getD, List.getElem?_eq_getElem h1, List.getElem?_eq_getElem h2] at this
  simp only [Option.getD_some] at this
  cases h3 : v[i] <;> cases h4 : v'[i] <;> simp [h3, h4] at this ⊢
theorem row_ref (tok : Bool) (l : List S59) (m : List Bool) (hl : l.length ≤ 1000) (hs : ∀ s ∈ l, SymOk m.length s) (d : Nat) : ∀ (k i : Nat), i + d = l.length → d < k →
    gramaryeref10_row.l0 k l tok m (i : Int) = some (!((l.drop i).any fun s => !isOf tok s m)) := by
  induction d with
  | zero =>
    intro k i h1 h2
    obtain ⟨k, rfl⟩ : ∃ m, k = m + 1 := ⟨k - 1, by omega⟩
    rw [gramaryeref10_row.l0, if_neg (by omega), List.drop_of_length_le (by omega)]
    rfl
  | succ d ih =>
    intro k i h1 h2
    obtain ⟨k, rfl⟩ : ∃ m, k = m + 1 := ⟨k - 1, by omega⟩
    have hi : i < l.length := by omega
    have hk := hs _ (List.getElem_mem hi)
    rw [gramaryeref10_row.l0, if_pos (by omega), if_pos (by omega), rd59 l i hi, w1 i (by omega), ih k (i + 1) (by omega) (by omega), List.drop_eq_getElem_cons hi, List.any_cons]
    generalize (List.drop (i + 1) l).any (fun s => !isOf tok s m) = q
    generalize l[i] = s at hk
    unfold isOf
    by_cases ht : s.f0 = true
    · rw [if_pos ht, if_pos ht, if_pos ht]
      cases tok <;> simp
    · obtain ⟨h3, h4⟩ := hk (by simpa using ht)
      rw [if_neg ht, if_neg ht, if_neg ht, if_pos h3, if_pos h4]
      cases rdOf false m s.f1 <;> simp
section
variable (tok : Bool) (t l : Int) (o : List Int) (L : List S51)
theorem ev_mark {v r : List Bool} {more : Bool} {i : Nat} (hi : i < L.length) (hL : L.length ≤ 1000) (hr8 : L[i].f1.length ≤ 8) (h0 : 0 ≤ L[i].f0) (h1 : L[i].f0 < (v.length : Int)) (hs : ∀ s ∈ L[i].f1, SymOk v.length s)
    (h : Ev (fun k => if rdOf false v L[i].f0 = false ∧ L[i].f1.any (fun s => !isOf tok s v) = false then gramaryeref10_mark.l1 k tok (v.set L[i].f0.toNat true) true ((i + 1 : Nat) : Int) t l o L else gramaryeref10_mark.l1 k tok v more ((i + 1 : Nat) : Int) t l o L) r) :
    Ev (fun k => gramaryeref10_mark.l1 k tok v more (i : Int) t l o L) r := by
  obtain ⟨K, hK⟩ := h
  refine ⟨K + 1010, fun k hk => ?_⟩
  obtain ⟨k, rfl⟩ : ∃ m, k = m + 1 := ⟨k - 1, by omega⟩
  have e := hK k (by omega)
  have hrow := row_ref tok L[i].f1 v (by omega) hs L[i].f1.length k 0 (by omega) (by omega)
  rw [List.drop_zero, show ((0 : Nat) : Int) = 0 from rfl] at hrow
  show gramaryeref10_mark.l1 (k + 1) tok v more (i : Int) t l o L = some r
  simp only at e
  rw [gramaryeref10_mark.l1, if_pos (by omega), if_pos (by omega), rd51 L i hi, if_pos h0, if_pos h1, w1 i (by omega)]
  cases hb : rdOf false v L[i].f0 with
  | true =>
    rw [hb, if_neg (by rintro ⟨h, _⟩; cases h)] at e
    rw [if_pos rfl]; exact e
  | false =>
    rw [if_neg (by decide), show gramaryeref10_row.f k L[i].f1 tok v = _ from hrow]
    simp only [Option.bind_some]
    cases hq : L[i].f1.any (fun s => !isOf tok s v) with
    | true =>
      rw [hq, if_neg (by rintro ⟨_, h⟩; cases h)] at e
      rw [if_neg (by decide)]; exact e
    | false =>
      rw [hb, hq, if_pos ⟨rfl, rfl⟩] at e
      rw [if_pos (by decide)]; exact e
end
theorem ref_marks (tok : Bool) {t l : Int} {o : List Int} {L : List S51} (hm : bnf_mayB t l o L = 0) (hs : Small 40 60 o L) :
    ∃ v, Ev (fun k => gramaryeref10_mark.f k t l o L tok) v ∧ v.length = o.length ∧ Above (psB tok L) u0B (stB v) ∧ Stable (psB tok L) (stB v) := by
  have hin := may_inN hm
  have hl := hs.l
  have ho := hs.o
  have key : ∃ r, Ev (fun k => gramaryeref10_mark.l0 k tok (List.replicate o.length false) true t l o L) r ∧ r.length = o.length ∧ Above (psB tok L) u0B (stB r) ∧ Stable (psB tok L) (stB r) := by
    refine sweeps_end (fun k s b => gramaryeref10_mark.l0 k tok s b t l o L) (fun k s b i => gramaryeref10_mark.l1 k tok s b (i : Int) t l o L) stB (fun v => v.length = o.length) (psB tok L) o.length u0B ?_ ?_ ?_ ?_ ?_ ?_ ?_ _ _ ?_ ?_ (Nat.le_refl _)
    · intro p hp
      obtain ⟨q, _, rfl⟩ := List.mem_map.1 hp
      exact valB_mono tok q.f1
    · intro p hp
      obtain ⟨q, hq, rfl⟩ := List.mem_map.1 hp
      have := hin q hq
      show q.f0.toNat < o.length
      omega
    · intro s r h
      exact Ev.step (fun k => by rw [gramaryeref10_mark.l0, if_pos rfl]; rfl) h
    · intro s
      refine ⟨1, fun k hk => ?_⟩
      obtain ⟨k, rfl⟩ : ∃ m, k = m + 1 := ⟨k - 1, by omega⟩
      show gramaryeref10_mark.l0 (k + 1) tok s false t l o L = some s
      rw [gramaryeref10_mark.l0, if_neg (by decide)]
    · intro v more i hi r hv himp h
      have hi' : i < L.length := by rwa [psB_length] at hi
      rw [psB_get tok L i hi' hi] at himp
      obtain ⟨a0, a1, a2⟩ := hin _ (List.getElem_mem hi')
      simp only at himp
      rw [impB] at himp
      refine ev_mark tok t l o L hi' (by omega) (hs.r _ (List.getElem_mem hi')) a0 (by omega) (by rw [hv]; exact a2) ?_
      refine Ev.congr (fun k => ?_) h
      rw [if_neg himp]
    · intro v more i hi hv himp
      have hi' : i < L.length := by rwa [psB_length] at hi
      rw [psB_get tok L i hi' hi] at himp ⊢
      obtain ⟨a0, a1, a2⟩ := hin _ (List.getElem_mem hi')
      simp only at himp ⊢
      rw [impB] at himp
      refine ⟨v.set L[i].f0.toNat true, by rw [List.length_set]; exact hv, ?_, fun r h => ?_⟩
      · rw [stB_set a0 (by omega), valB_is, himp.2]; rfl
      · refine ev_mark tok t l o L hi' (by omega) (hs.r _ (List.getElem_mem hi')) a0 (by omega) (by rw [hv]; exact a2) ?_
        refine Ev.congr (fun k => ?_) h
        rw [if_pos himp]
    · intro s more r h
      rw [psB_length]
      exact Ev.step (fun k => by rw [gramaryeref10_mark.l1, if_neg (by omega)]) h
    · simp
    · rw [stB_init]; exact Above.init _ _
  obtain ⟨r, h1, h2⟩ := key
  refine ⟨r, Ev.congr (fun k => ?_) h1, h2⟩
  unfold gramaryeref10_mark.f
  rw [if_pos (by omega), if_pos (by omega), Int.toNat_natCast]
def lay (l : List (List Int)) (first : List Int) : Nat → Int → Prop
  | 0, x => x ∈ first
  | d + 1, x => ∃ a, lay l first d a ∧ x ∈ l.getD a.toNat []
def bfs (l : List (List Int)) : Nat → List Bool → List (Int × Int) → Option (List (Int × Int))
  | 0, _, _ => none
  | _ + 1, _, [] => some []
  | k + 1, m, x :: r => (bfs l k (walkPut (l.getD x.1.toNat []) x.1 (m, r)).1 (walkPut (l.getD x.1.toNat []) x.1 (m, r)).2).map (x :: ·)
def stopAt {σ : Type} (tell : σ → Int → Int → σ × Bool) : List (Int × Int) → σ → σ
  | [], st => st
  | x :: r, st => if (tell st x.1 x.2).2 = true then stopAt tell r (tell st x.1 x.2).1 else (tell st x.1 x.2).1
theorem walk_bfs {σ : Type} (l : List (List Int)) (tell : σ → Int → Int → σ × Bool) : ∀ (k : Nat) (m : List Bool) (q : List (Int × Int)) (st : σ) (tr : List (Int × Int)), bfs l k m q = some tr → walkL l tell k m q st = some (stopAt tell tr st)
  | 0, _, _, _, _, h => by simp [bfs] at h
  | k + 1, m, [], st, tr, h => by rw [bfs] at h; injection h with h; subst h; rfl
  | k + 1, m, x :: r, st, tr, h => by
    rw [bfs] at h
    obtain ⟨t, ht, rfl⟩ := Option.map_eq_some_iff.1 h
    rw [walkL, stopAt]
    by_cases c : (tell st x.1 x.2).2 = true
    · rw [if_pos c, if_pos c]; exact walk_bfs l tell k _ _ _ _ ht
    · rw [if_neg c, if_neg c]
def nodes (A : List (Int × Int)) : List Int := A.map (·.1)
theorem nodes_app (A B : List (Int × Int)) : nodes (A ++ B) = nodes A ++ nodes B := by simp [nodes]
theorem mem_nodes {A : List (Int × Int)} {p : Int × Int} (h : p ∈ A) : p.1 ∈ nodes A := List.mem_map.2 ⟨p, h, rfl⟩
theorem of_nodes {A : List (Int × Int)} {x : Int} (h : x ∈ nodes A) : ∃ p ∈ A, p.1 = x := List.mem_map.1 h
theorem nodup_le : ∀ (n : Nat) (l : List Int), l.Nodup → (∀ x ∈ l, 0 ≤ x ∧ x < (n : Int)) → l.length ≤ n
  | 0, l, _, h => by
    cases l with
    | nil => simp
    | cons x r => have := h x List.mem_cons_self; omega
  | n + 1, l, hn, h => by
    by_cases hm : (n : Int) ∈ l
    · have h1 := nodup_le n (l.erase (n : Int)) (hn.erase _) (fun x hx => by
        have h2 := (hn.mem_erase_iff).1 hx
        have := h x h2.2
        have h3 := h2.1
        omega)
      rw [List.length_erase_of_mem hm] at h1
      omega
    · have := nodup_le n l hn (fun x hx => by
        have h2 := h x hx
        have : x ≠ (n : Int) := fun e => hm (e ▸ hx)
        omega)
      omega
structure BInv (l : List (List Int)) (first : List Int) (F : Int → Prop) (R : Int → Int → Prop) (T q : List (Int × Int)) (m : List Bool) (lv : Int → Nat) (c : Nat) : Prop where
  len : m.length = l.length
  inn : ∀ p ∈ T ++ q, 0 ≤ p.1 ∧ p.1 < (l.length : Int)
  seen : ∀ x, 0 ≤ x → (rdOf false m x = true ↔ x ∈ nodes (T ++ q))
  nodup : (nodes (T ++ q)).Nodup
  ent : ∀ p ∈ T ++ q, (p.2 = -1 ∧ p.1 ∈ first ∧ lv p.1 = 0) ∨ (p.2 ∈ nodes T ∧ p.1 ∈ l.getD p.2.toNat [] ∧ lv p.1 = lv p.2 + 1)
  rows : ∀ a x, R a x → a ∈ nodes T ∧ x ∈ nodes (T ++ q) ∧ lv x ≤ lv a + 1
  fst : ∀ x, F x → x ∈ nodes (T ++ q) ∧ lv x = 0
  srt : (nodes (T ++ q)).Pairwise (fun a b => lv a ≤ lv b)
  rng : ∀ p ∈ q, c ≤ lv p.1 ∧ lv p.1 ≤ c + 1
  told : ∀ p ∈ T, lv p.1 ≤ c
section
variable {l : List (List Int)} {first : List Int} {F : Int → Prop} {R : Int → Int → Prop} {T q : List (Int × Int)} {m : List Bool} {lv : Int → Nat} {c : Nat}
theorem rd_set (m : List Bool) (x y : Int) (x0 : 0 ≤ x) (x1 : x < (m.length : Int)) (y0 : 0 ≤ y) : rdOf false (m.set x.toNat true) y = if y = x then true else rdOf false m y := by
  unfold rdOf
  rw [List.getD_eq_getElem?_getD, List.getD_eq_getElem?_getD, List.getElem?_set]
  by_cases e : y = x
  · subst e
    rw [if_pos rfl, if_pos rfl, if_pos (by omega)]; rfl
  · rw [if_neg e, if_neg (by omega)]
theorem BInv.put (h : BInv l first F R T q m lv c) {x b : Int} {v : Nat} (x0 : 0 ≤ x) (x1 : x < (l.length : Int)) (hb : (b = -1 ∧ x ∈ first ∧ v = 0) ∨ (b ∈ nodes T ∧ x ∈ l.getD b.toNat [] ∧ v = lv b + 1)) (hv : ∀ p ∈ q, lv p.1 ≤ v) (hv1 : c ≤ v) (hv2 : v ≤ c + 1) :
    ∃ lv', BInv l first F R T (putF (m, q) x b).2 (putF (m, q) x b).1 lv' c ∧ x ∈ nodes (T ++ (putF (m, q) x b).2) ∧ lv' x ≤ v ∧ (∀ y ∈ nodes (T ++ q), lv' y = lv y ∧ y ∈ nodes (T ++ (putF (m, q) x b).2)) ∧ (∀ p ∈ (putF (m, q) x b).2, p ∈ q ∨ lv' p.1 = v) := by
  unfold putF
  by_cases hs : rdOf false m x = true
  · rw [if_pos hs]
    have hx := (h.seen x x0).1 hs
    refine ⟨lv, h, hx, ?_, fun y hy => ⟨rfl, hy⟩, fun p hp => .inl hp⟩
    obtain ⟨p, hp, rfl⟩ := of_nodes hx
    rcases List.mem_append.1 hp with hp | hp
    · have := h.told p hp; omega
    · exact hv p hp
  · rw [if_neg hs]
    have hx : x ∉ nodes (T ++ q) := fun e => hs ((h.seen x x0).2 e)
    have hne : ∀ y ∈ nodes (T ++ q), (if y = x then v else lv y) = lv y := fun y hy => if_neg (fun e : y = x => hx (e ▸ hy))
    have hT : ∀ y ∈ nodes T, y ∈ nodes (T ++ q) := fun y hy => by rw [nodes_app]; exact List.mem_append_left _ hy
    have hq : ∀ p ∈ q, p.1 ∈ nodes (T ++ q) := fun p hp => mem_nodes (List.mem_append_right _ hp)
    have happ : T ++ (q ++ [(x, b)]) = (T ++ q) ++ [(x, b)] := by rw [List.append_assoc]
    refine ⟨fun y => if y = x then v else lv y, ⟨?_, ?_, ?_, ?_, ?_, ?_, ?_, ?_, ?_, ?_⟩, ?_, by simp, fun y hy => ⟨hne y hy, by rw [happ, nodes_app]; exact List.mem_append_left _ hy⟩, fun p hp => ?_⟩
    · rw [List.length_set]; exact h.len
    · intro p hp
      rw [happ] at hp
      rcases List.mem_append.1 hp with hp | hp
      · exact h.inn p hp
      · obtain rfl := List.mem_singleton.1 hp
        exact ⟨x0, x1⟩
    · intro y y0
      rw [rd_set m x y x0 (by rw [h.len]; exact x1) y0, happ, nodes_app, List.mem_append]
      by_cases e : y = x
      · rw [if_pos e]
        exact ⟨fun _ => .inr (by rw [e]; simp [nodes]), fun _ => rfl⟩
      · rw [if_neg e, h.seen y y0]
        exact ⟨.inl, fun h' => h'.elim id fun h' => absurd (by simpa [nodes] using h') e⟩
    · rw [happ, nodes_app]
      exact List.nodup_append.2 ⟨h.nodup, by simp [nodes], fun a ha b' hb' e => by
        have : b' = x := by simpa [nodes] using hb'
        exact hx (by rw [← this, ← e]; exact ha)⟩
    · intro p hp
      rw [happ] at hp
      rcases List.mem_append.1 hp with hp | hp
      · rw [hne _ (mem_nodes hp)]
        rcases h.ent p hp with h1 | ⟨h1, h2, h3⟩
        · exact .inl h1
        · exact .inr ⟨h1, h2, by rw [hne _ (hT _ h1)]; exact h3⟩
      · obtain rfl := List.mem_singleton.1 hp
        simp only [if_pos]
        rcases hb with h1 | ⟨h1, h2, h3⟩
        · exact .inl h1
        · exact .inr ⟨h1, h2, by rw [hne _ (hT _ h1)]; exact h3⟩
    · intro a y hr
      obtain ⟨h1, h2, h3⟩ := h.rows a y hr
      refine ⟨h1, by rw [happ, nodes_app]; exact List.mem_append_left _ h2, ?_⟩
      rw [hne _ h2, hne _ (hT _ h1)]; exact h3
    · intro y hf
      obtain ⟨h1, h2⟩ := h.fst y hf
      exact ⟨by rw [happ, nodes_app]; exact List.mem_append_left _ h1, by rw [hne _ h1]; exact h2⟩
    · rw [happ, nodes_app]
      refine List.pairwise_append.2 ⟨?_, by simp [nodes], ?_⟩
      · refine List.Pairwise.imp_of_mem ?_ h.srt
        intro a b' ha hb' hab
        rw [hne _ ha, hne _ hb']; exact hab
      · intro a ha b' hb'
        have e : b' = x := by simpa [nodes] using hb'
        rw [hne _ ha, e, if_pos rfl]
        obtain ⟨p, hp, rfl⟩ := of_nodes ha
        rcases List.mem_append.1 hp with hp | hp
        · have := h.told p hp; omega
        · exact hv p hp
    · intro p hp
      rcases List.mem_append.1 hp with hp | hp
      · rw [hne _ (hq p hp)]; exact h.rng p hp
      · obtain rfl := List.mem_singleton.1 hp
        simp only [if_pos]
        exact ⟨hv1, hv2⟩
    · intro p hp
      rw [hne _ (hT _ (mem_nodes hp))]; exact h.told p hp
    · rw [happ, nodes_app]; exact List.mem_append_right _ (by simp [nodes])
    · rcases List.mem_append.1 hp with hp | hp
      · exact .inl hp
      · obtain rfl := List.mem_singleton.1 hp
        exact .inr (by simp)
theorem BInv.more {F' : Int → Prop} {R' : Int → Int → Prop} (h : BInv l first F R T q m lv c) (hR : ∀ a x, R' a x → R a x ∨ (a ∈ nodes T ∧ x ∈ nodes (T ++ q) ∧ lv x ≤ lv a + 1)) (hF : ∀ x, F' x → F x ∨ (x ∈ nodes (T ++ q) ∧ lv x = 0)) : BInv l first F' R' T q m lv c :=
  ⟨h.len, h.inn, h.seen, h.nodup, h.ent, fun a x hr => (hR a x hr).elim (h.rows a x) id, fun x hf => (hF x hf).elim (h.fst x) id, h.srt, h.rng, h.told⟩
theorem BInv.putRow {a : Int} : ∀ (xs : List Int) (R : Int → Int → Prop) (q : List (Int × Int)) (m : List Bool) (lv : Int → Nat), BInv l first F R T q m lv c → a ∈ nodes T → lv a = c → (∀ x ∈ xs, 0 ≤ x ∧ x < (l.length : Int) ∧ x ∈ l.getD a.toNat []) →
    ∃ lv', BInv l first F (fun b x => R b x ∨ (b = a ∧ x ∈ xs)) T (walkPut xs a (m, q)).2 (walkPut xs a (m, q)).1 lv' c
  | [], R, q, m, lv, h, ha, hc, hx => ⟨lv, h.more (fun b x hr => hr.elim .inl fun h => by cases h.2) (fun x hf => .inl hf)⟩
  | x :: xs, R, q, m, lv, h, ha, hc, hx => by
    obtain ⟨x0, x1, x2⟩ := hx x List.mem_cons_self
    obtain ⟨lv1, h1, h2, h3, h4, _⟩ := h.put x0 x1 (.inr ⟨ha, x2, rfl⟩) (fun p hp => by have := h.rng p hp; omega) (by omega) (by omega)
    have haq : a ∈ nodes (T ++ q) := by rw [nodes_app]; exact List.mem_append_left _ ha
    have hla : lv1 a = lv a := (h4 a haq).1
    have h1' := h1.more (F' := F) (R' := fun b y => R b y ∨ (b = a ∧ y = x)) (fun b y hr => hr.elim .inl fun ⟨e1, e2⟩ => .inr (by subst e1 e2; exact ⟨ha, h2, by omega⟩)) (fun x hf => .inl hf)
    obtain ⟨lv2, h5⟩ := BInv.putRow xs _ _ _ lv1 h1' ha (by omega) (fun y hy => hx y (List.mem_cons_of_mem _ hy))
    exact ⟨lv2, h5.more (fun b y hr => .inl (by
      rcases hr with hr | ⟨e1, hr⟩
      · exact .inl (.inl hr)
      · rcases List.mem_cons.1 hr with e2 | hr
        · exact .inl (.inr ⟨e1, e2⟩)
        · exact .inr ⟨e1, hr⟩)) (fun x hf => .inl hf)⟩
theorem BInv.putFirst : ∀ (xs : List Int) (F : Int → Prop) (q : List (Int × Int)) (m : List Bool) (lv : Int → Nat), BInv l first F R [] q m lv 0 → (∀ p ∈ q, lv p.1 = 0) → (∀ x ∈ xs, 0 ≤ x ∧ x < (l.length : Int) ∧ x ∈ first) →
    ∃ lv', BInv l first (fun x => F x ∨ x ∈ xs) R [] (walkPut xs (-1) (m, q)).2 (walkPut xs (-1) (m, q)).1 lv' 0
  | [], F, q, m, lv, h, h0, hx => ⟨lv, h.more (fun b x hr => .inl hr) (fun x hf => hf.elim .inl fun h => by cases h)⟩
  | x :: xs, F, q, m, lv, h, h0, hx => by
    obtain ⟨x0, x1, x2⟩ := hx x List.mem_cons_self
    obtain ⟨lv1, h1, h2, h3, h4, h5⟩ := h.put x0 x1 (.inl ⟨rfl, x2, rfl⟩) (fun p hp => by have := h0 p hp; omega) (Nat.le_refl _) (by omega)
    have h1' := h1.more (F' := fun y => F y ∨ y = x) (R' := R) (fun b y hr => .inl hr) (fun y hf => hf.elim .inl fun e => .inr (by subst e; exact ⟨h2, by omega⟩))
    obtain ⟨lv2, h6⟩ := BInv.putFirst xs _ _ _ lv1 h1' (fun p hp => by
      rcases h5 p hp with h | h
      · rw [(h4 p.1 (mem_nodes (by simpa using h))).1]; exact h0 p h
      · exact h) (fun y hy => hx y (List.mem_cons_of_mem _ hy))
    exact ⟨lv2, h6.more (fun b y hr => .inl hr) (fun y hr => .inl (by
      rcases hr with hr | hr
      · exact .inl (.inl hr)
      · rcases List.mem_cons.1 hr with e2 | hr
        · exact .inl (.inr e2)
        · exact .inr hr))⟩
theorem BInv.pop {a b : Int} {r : List (Int × Int)} (h : BInv l first F R T ((a, b) :: r) m lv c) : BInv l first F R (T ++ [(a, b)]) r m lv (lv a) := by
  have e : (T ++ [(a, b)]) ++ r = T ++ (a, b) :: r := by simp
  have hT : ∀ y ∈ nodes T, y ∈ nodes (T ++ [(a, b)]) := fun y hy => by rw [nodes_app]; exact List.mem_append_left _ hy
  have h0 := h.rng (a, b) List.mem_cons_self
  refine ⟨h.len, by rw [e]; exact h.inn, by rw [e]; exact h.seen, by rw [e]; exact h.nodup, ?_, ?_, by rw [e]; exact h.fst, by rw [e]; exact h.srt, ?_, ?_⟩
  · rw [e]
    exact fun p hp => (h.ent p hp).elim .inl fun h1 => .inr ⟨hT _ h1.1, h1.2⟩
  · rw [e]
    exact fun a' x hr => ⟨hT _ (h.rows a' x hr).1, (h.rows a' x hr).2⟩
  · intro p hp
    have h1 := h.rng p (List.mem_cons_of_mem _ hp)
    have h2 := h.srt
    rw [nodes_app] at h2
    have h3 := (List.pairwise_append.1 h2).2.1
    have h4 := List.rel_of_pairwise_cons h3 (a' := p.1) (mem_nodes hp)
    simp only at h0 h1 h4 ⊢
    omega
  · intro p hp
    rcases List.mem_append.1 hp with hp | hp
    · have := h.told p hp
      simp only at h0
      omega
    · obtain rfl := List.mem_singleton.1 hp
      exact Nat.le_refl _
end
structure BFin (l : List (List Int)) (first : List Int) (A : List (Int × Int)) (lv : Int → Nat) : Prop where
  inn : ∀ p ∈ A, 0 ≤ p.1 ∧ p.1 < (l.length : Int)
  nodup : (nodes A).Nodup
  ent : ∀ p ∈ A, (p.2 = -1 ∧ p.1 ∈ first ∧ lv p.1 = 0) ∨ (p.2 ∈ nodes A ∧ p.1 ∈ l.getD p.2.toNat [] ∧ lv p.1 = lv p.2 + 1)
  rows : ∀ a ∈ nodes A, ∀ x ∈ l.getD a.toNat [], x ∈ nodes A ∧ lv x ≤ lv a + 1
  fst : ∀ x ∈ first, x ∈ nodes A ∧ lv x = 0
  srt : (nodes A).Pairwise (fun a b => lv a ≤ lv b)
theorem bfs_go {l : List (List Int)} {first : List Int} (hl : InN l.length l) : ∀ (k : Nat) (R : Int → Int → Prop) (T q : List (Int × Int)) (m : List Bool) (lv : Int → Nat) (c : Nat), BInv l first (fun x => x ∈ first) R T q m lv c → (∀ p ∈ T, ∀ x ∈ l.getD p.1.toNat [], R p.1 x) → l.length < k + T.length →
    ∃ tr lv', bfs l k m q = some tr ∧ BFin l first (T ++ tr) lv'
  | 0, R, T, q, m, lv, c, h, hR, hk => by
    have h1 : (nodes T).Nodup := by have := h.nodup; rw [nodes_app] at this; exact (List.nodup_append.1 this).1
    have := nodup_le l.length (nodes T) h1 (fun x hx => by obtain ⟨p, hp, rfl⟩ := of_nodes hx; exact h.inn p (List.mem_append_left _ hp))
    simp [nodes] at this
    omega
  | k + 1, R, T, [], m, lv, c, h, hR, hk => by
    refine ⟨[], lv, rfl, ?_⟩
    have e : T ++ [] = T := List.append_nil T
    refine ⟨h.inn, h.nodup, by rw [e]; have := h.ent; rwa [e] at this, fun a ha x hx => ?_, h.fst, h.srt⟩
    rw [e] at ha
    obtain ⟨p, hp, rfl⟩ := of_nodes ha
    exact (h.rows _ x (hR p hp x hx)).2
  | k + 1, R, T, (a, b) :: r, m, lv, c, h, hR, hk => by
    have h1 := h.pop
    have ha : a ∈ nodes (T ++ [(a, b)]) := by rw [nodes_app]; exact List.mem_append_right _ (by simp [nodes])
    have h00 := h.inn (a, b) (by simp)
    obtain ⟨lv1, h2⟩ := h1.putRow (a := a) (l.getD a.toNat []) R r m lv ha rfl (fun x hx => ⟨(hl _ x hx).1, (hl _ x hx).2, hx⟩)
    obtain ⟨tr, lv2, h3, h4⟩ := bfs_go hl k _ _ _ _ lv1 _ h2 (fun p hp x hx => by
      rcases List.mem_append.1 hp with hp | hp
      · exact .inl (hR p hp x hx)
      · obtain rfl := List.mem_singleton.1 hp
        exact .inr ⟨rfl, hx⟩) (by simp; omega)
    refine ⟨(a, b) :: tr, lv2, ?_, ?_⟩
    · rw [bfs]
      simp only
      rw [h3]; rfl
    · rw [show T ++ (a, b) :: tr = (T ++ [(a, b)]) ++ tr by simp]; exact h4
theorem bfs_is {l : List (List Int)} {first : List Int} (hl : InN l.length l) (hf : ∀ x ∈ first, 0 ≤ x ∧ x < (l.length : Int)) (K : Nat) (hK : l.length < K) :
    ∃ A lv, bfs l K (walkPut first (-1) (List.replicate l.length false, [])).1 (walkPut first (-1) (List.replicate l.length false, [])).2 = some A ∧ BFin l first A lv := by
  have h0 : BInv l first (fun _ => False) (fun _ _ => False) [] [] (List.replicate l.length false) (fun _ => 0) 0 := by
    refine ⟨by simp, by simp, fun x _ => ?_, by simp [nodes], by simp, fun _ _ h => h.elim, fun _ h => h.elim, by simp [nodes], by simp, by simp⟩
    unfold rdOf
    rw [List.getD_eq_getElem?_getD, List.getElem?_replicate]
    split <;> simp [nodes]
  obtain ⟨lv1, h1⟩ := BInv.putFirst first _ [] _ _ h0 (by simp) (fun x hx => ⟨(hf x hx).1, (hf x hx).2, hx⟩)
  obtain ⟨A, lv2, h2, h3⟩ := bfs_go hl K _ [] _ _ lv1 0 (h1.more (fun _ _ h => .inl h) (fun x hx => .inl (.inr hx))) (by simp) (by simpa using hK)
  exact ⟨A, lv2, h2, by simpa using h3⟩
section
variable {l : List (List Int)} {first : List Int} {A : List (Int × Int)} {lv : Int → Nat}
theorem BFin.low (h : BFin l first A lv) : ∀ d x, lay l first d x → x ∈ nodes A ∧ lv x ≤ d
  | 0, x, hx => by have := h.fst x hx; exact ⟨this.1, by omega⟩
  | d + 1, x, ⟨a, h1, h2⟩ => by
    obtain ⟨h3, h4⟩ := h.low d a h1
    obtain ⟨h5, h6⟩ := h.rows a h3 x h2
    exact ⟨h5, by omega⟩
theorem BFin.high (h : BFin l first A lv) : ∀ d x, x ∈ nodes A → lv x = d → lay l first d x
  | 0, x, hx, e => by
    obtain ⟨p, hp, rfl⟩ := of_nodes hx
    rcases h.ent p hp with ⟨_, h2, _⟩ | ⟨_, _, h3⟩
    · exact h2
    · omega
  | d + 1, x, hx, e => by
    obtain ⟨p, hp, rfl⟩ := of_nodes hx
    rcases h.ent p hp with ⟨_, _, h2⟩ | ⟨h1, h2, h3⟩
    · omega
    · exact ⟨p.2, h.high d p.2 h1 (by omega), h2⟩
theorem BFin.mem (h : BFin l first A lv) (x : Int) : x ∈ nodes A ↔ ∃ d, lay l first d x :=
  ⟨fun hx => ⟨_, h.high _ x hx rfl⟩, fun ⟨d, hd⟩ => (h.low d x hd).1⟩
end
def hitRow (mk : List Bool) (all : Bool) (m : Int) : List S59 → Bool
  | [] => false
  | s :: r => (!s.f0 && (s.f1 == m)) || (if all = false ∧ (s.f0 = true ∨ rdOf false mk s.f1 = false) then false else hitRow mk all m r)
def hits (mk : List Bool) (all : Bool) (L : List S51) (n m : Int) : Bool := L.any fun p => decide (p.f0 = n) && hitRow mk all m p.f1
def nxt (mk : List Bool) (all : Bool) (L : List S51) (n : Int) (N : Nat) : List Int := (upTo N).filter fun m => hits mk all L n m
theorem mem_upTo {N : Nat} {x : Int} : x ∈ upTo N ↔ 0 ≤ x ∧ x < (N : Int) := by
  unfold upTo
  rw [List.mem_map]
  constructor
  · rintro ⟨i, hi, rfl⟩
    rw [List.mem_range] at hi
    exact ⟨Int.natCast_nonneg i, Int.ofNat_lt.2 hi⟩
  · rintro ⟨h0, h1⟩
    exact ⟨x.toNat, by rw [List.mem_range]; omega, by show ((x.toNat : Nat) : Int) = x; omega⟩
theorem upTo_nodup (N : Nat) : (upTo N).Nodup := by
  induction N with
  | zero => simp [upTo]
  | succ N ih =>
    rw [upTo_succ]
    exact List.nodup_append.2 ⟨ih, by simp, fun a ha b hb e => by
      have h1 := mem_upTo.1 ha
      have h2 : b = (N : Int) := by simpa using hb
      omega⟩
theorem upTo_drop (N i : Nat) (h : i < N) : (upTo N).drop i = (i : Int) :: (upTo N).drop (i + 1) := by
  rw [List.drop_eq_getElem_cons (by rw [upTo_length]; exact h)]
  congr 1
  simp [upTo]
section
variable (t l : Int) (o : List Int) (L : List S51) (mk : List Bool) (n : Int) (all : Bool)
theorem ev_n2 {m : Int} {i : Nat} (hi : i < L.length) (hL : L.length ≤ 1000) (hr8 : L[i].f1.length ≤ 1000) (hs : ∀ s ∈ L[i].f1, SymOk mk.length s) (out res : List Int) : ∀ (d j : Nat) (is : Bool), j + d = L[i].f1.length →
    Ev (fun k => gramaryeref11_Next.l1 k n all mk out m (is || hitRow mk all m (L[i].f1.drop j)) ((i + 1 : Nat) : Int) t l o L) res →
    Ev (fun k => gramaryeref11_Next.l2 k n all mk out m is (i : Int) (j : Int) t l o L) res
  | 0, j, is, hj, h => by
    refine Ev.step (fun k => ?_) h
    rw [gramaryeref11_Next.l2, if_pos (by omega), if_pos (by omega), rd51 L i hi, if_neg (by omega), w1 i (by omega), List.drop_of_length_le (by omega)]
    simp [hitRow]
  | d + 1, j, is, hj, h => by
    have hjl : j < L[i].f1.length := by omega
    have hk := hs _ (List.getElem_mem hjl)
    have ih := fun is => ev_n2 (m := m) hi hL hr8 hs out res d (j + 1) is (by omega)
    rw [List.drop_eq_getElem_cons hjl, hitRow] at h
    refine Ev.step (f := fun k => gramaryeref11_Next.j3 k n all mk out m is (i : Int) (j : Int) (!L[i].f1[j].f0 && (L[i].f1[j].f1 == m)) t l o L L[i].f1[j].f0 L[i].f1[j].f1) (fun k => ?_) ?_
    · rw [gramaryeref11_Next.l2, if_pos (by omega), if_pos (by omega), rd51 L i hi, if_pos (by omega), if_pos (by omega), rd59 _ j hjl]
      cases L[i].f1[j].f0 <;> rfl
    generalize L[i].f1[j] = s at h hk
    have stop : (all = false ∧ (s.f0 = true ∨ rdOf false mk s.f1 = false)) → Ev (fun k => gramaryeref11_Next.j3 k n all mk out m is (i : Int) (j : Int) (!s.f0 && (s.f1 == m)) t l o L s.f0 s.f1) res := by
      intro hst
      rw [if_pos hst, Bool.or_false] at h
      refine Ev.step (fun k => ?_) h
      rw [gramaryeref11_Next.j3, w1 i (by omega), hst.1]
      cases c : s.f0 with
      | true => simp
      | false =>
        have h0 := hk c
        have h1 := hst.2.resolve_left (by rw [c]; decide)
        rw [h1]
        cases hm : (s.f1 == m) <;> cases is <;> simp [h0.1, h0.2]
    have go : ¬ (all = false ∧ (s.f0 = true ∨ rdOf false mk s.f1 = false)) → Ev (fun k => gramaryeref11_Next.j3 k n all mk out m is (i : Int) (j : Int) (!s.f0 && (s.f1 == m)) t l o L s.f0 s.f1) res := by
      intro hst
      rw [if_neg hst, ← Bool.or_assoc] at h
      refine Ev.step (fun k => ?_) (ih _ h)
      rw [gramaryeref11_Next.j3, w1 j (by omega)]
      cases hall : all with
      | true =>
        cases (!s.f0 && (s.f1 == m)) <;> cases is <;> simp
      | false =>
        have h1 : s.f0 = false := by
          cases c : s.f0 with
          | true => exact absurd ⟨hall, .inl c⟩ hst
          | false => rfl
        have h2 : rdOf false mk s.f1 = true := by
          cases c : rdOf false mk s.f1 with
          | false => exact absurd ⟨hall, .inr c⟩ hst
          | true => rfl
        have h0 := hk h1
        rw [h1, h2]
        cases hm : (s.f1 == m) <;> cases is <;> simp [h0.1, h0.2]
    by_cases hst : all = false ∧ (s.f0 = true ∨ rdOf false mk s.f1 = false)
    · exact stop hst
    · exact go hst
theorem ev_n1 {m : Int} (hm : ∃ i : Nat, m = (i : Int) ∧ i < 1000000) (hL : L.length ≤ 1000) (hr8 : ∀ p ∈ L, p.f1.length ≤ 1000) (hs : ∀ p ∈ L, ∀ s ∈ p.f1, SymOk mk.length s) (out res : List Int) (hout : out.length ≤ 1000000) : ∀ (d i : Nat) (is : Bool), i + d = L.length →
    Ev (fun k => gramaryeref11_Next.l0 k n all mk (if (is || hits mk all (L.drop i) n m) = true then out ++ [m] else out) (m + 1) t l o L) res →
    Ev (fun k => gramaryeref11_Next.l1 k n all mk out m is (i : Int) t l o L) res
  | 0, i, is, hi, h => by
    refine Ev.step (fun k => ?_) h
    obtain ⟨m0, rfl, hm0⟩ := hm
    rw [gramaryeref11_Next.l1, if_neg (by omega), List.drop_of_length_le (by omega), w1 m0 (by omega)]
    have e : (is || hits mk all [] n (m0 : Int)) = is := by simp [hits]
    rw [e]
    cases is with
    | true => rw [if_pos rfl, if_pos rfl, if_pos (by omega)]; rfl
    | false => rw [if_neg (by decide), if_neg (by decide)]; rfl
  | d + 1, i, is, hi, h => by
    have hil : i < L.length := by omega
    have ih := fun is => ev_n1 hm hL hr8 hs out res hout d (i + 1) is (by omega)
    have e : (is || hits mk all (L.drop i) n m) = ((is || (decide (L[i].f0 = n) && hitRow mk all m L[i].f1)) || hits mk all (L.drop (i + 1)) n m) := by
      rw [List.drop_eq_getElem_cons hil]
      unfold hits
      rw [List.any_cons, Bool.or_assoc]
    rw [e] at h
    by_cases c : L[i].f0 = n
    · rw [decide_eq_true c, Bool.true_and] at h
      refine Ev.step (fun k => ?_) (ev_n2 t l o L mk n all hil hL (hr8 _ (List.getElem_mem hil)) (hs _ (List.getElem_mem hil)) out res L[i].f1.length 0 is (by omega) (by rw [List.drop_zero]; exact ih _ h))
      rw [gramaryeref11_Next.l1, if_pos (by omega), if_pos (by omega), rd51 L i hil, if_pos c]; rfl
    · rw [decide_eq_false c, Bool.false_and, Bool.or_false] at h
      refine Ev.step (fun k => ?_) (ih _ h)
      rw [gramaryeref11_Next.l1, if_pos (by omega), if_pos (by omega), rd51 L i hil, if_neg c, w1 i (by omega)]
theorem ev_n0 (ho : o.length ≤ 1000) (hL : L.length ≤ 1000) (hr8 : ∀ p ∈ L, p.f1.length ≤ 1000) (hs : ∀ p ∈ L, ∀ s ∈ p.f1, SymOk mk.length s) : ∀ (d i : Nat) (out : List Int), i + d = o.length → out.length ≤ i →
    Ev (fun k => gramaryeref11_Next.l0 k n all mk out (i : Int) t l o L) (out ++ ((upTo o.length).drop i).filter fun m => hits mk all L n m)
  | 0, i, out, hi, hout => by
    refine ⟨1, fun k hk => ?_⟩
    obtain ⟨k, rfl⟩ : ∃ m, k = m + 1 := ⟨k - 1, by omega⟩
    show gramaryeref11_Next.l0 (k + 1) n all mk out (i : Int) t l o L = _
    rw [gramaryeref11_Next.l0, if_neg (by omega), List.drop_of_length_le (by rw [upTo_length]; omega)]
    simp
  | d + 1, i, out, hi, hout => by
    have ih := fun out' => ev_n0 ho hL hr8 hs d (i + 1) out' (by omega)
    refine Ev.step (f := fun k => gramaryeref11_Next.l1 k n all mk out (i : Int) false 0 t l o L) (fun k => by rw [gramaryeref11_Next.l0, if_pos (by omega)]) ?_
    refine ev_n1 t l o L mk n all ⟨i, rfl, by omega⟩ hL hr8 hs out _ (by omega) L.length 0 false (by omega) ?_
    rw [List.drop_zero, Bool.false_or, upTo_drop _ _ (by omega), List.filter_cons]
    by_cases c : hits mk all L n (i : Int) = true
    · rw [if_pos c, if_pos c]
      have := ih (out ++ [(i : Int)]) (by simp; omega)
      rw [List.append_assoc] at this
      exact this
    · rw [if_neg c, if_neg c]
      exact ih out (by omega)
theorem next_is (ho : o.length ≤ 1000) (hL : L.length ≤ 1000) (hr8 : ∀ p ∈ L, p.f1.length ≤ 1000) (hs : ∀ p ∈ L, ∀ s ∈ p.f1, SymOk mk.length s) (hN : Ev (fun k => gramaryeref10_Nothing.f k t l o L) mk) :
    Ev (fun k => gramaryeref11_Next.f k t l o L n all) (nxt mk all L n o.length) :=
  Ev.bind (f := fun k t170 => gramaryeref11_Next.l0 k n all t170 [] 0 t l o L) hN (by have := ev_n0 t l o L mk n all ho hL hr8 hs o.length 0 [] (by omega) (by simp); rwa [List.drop_zero, List.nil_append] at this)
end
theorem has_l0 (l : List Int) (x : Int) (hl : l.length ≤ 1000000) : ∀ (d i k : Nat), i + d = l.length → d < k → gramaryebase_HasInt.l0 k l x (i : Int) = some (decide (x ∈ l.drop i))
  | 0, i, k, h1, h2 => by
    obtain ⟨k, rfl⟩ : ∃ m, k = m + 1 := ⟨k - 1, by omega⟩
    rw [gramaryebase_HasInt.l0, if_neg (by omega), List.drop_of_length_le (by omega)]
    simp
  | d + 1, i, k, h1, h2 => by
    obtain ⟨k, rfl⟩ : ∃ m, k = m + 1 := ⟨k - 1, by omega⟩
    have hi : i < l.length := by omega
    have hr : rd l (i : Int) = l[i] := by unfold rd; rw [Int.toNat_natCast, List.getD_eq_getElem?_getD, List.getElem?_eq_getElem hi]; rfl
    rw [gramaryebase_HasInt.l0, if_pos (by omega), if_pos (by omega), hr, w1 i (by omega), has_l0 l x hl d (i + 1) k (by omega) (by omega), List.drop_eq_getElem_cons hi]
    by_cases c : l[i] = x
    · rw [if_pos c, ← c]; exact congrArg some (decide_eq_true List.mem_cons_self).symm
    · rw [if_neg c]
      have c' : ¬ x = l[i] := fun e => c e.symm
      have e : x ∈ l[i] :: l.drop (i + 1) ↔ x ∈ l.drop (i + 1) := by rw [List.mem_cons]; exact ⟨fun h => h.resolve_left c', .inr⟩
      simp only [e]
theorem has_is (l : List Int) (x : Int) (hl : l.length ≤ 1000000) (k : Nat) (hk : l.length < k) : gramaryebase_HasInt.f k l x = some (decide (x ∈ l)) := by
  have := has_l0 l x hl l.length 0 k (by omega) hk
  rw [List.drop_zero] at this
  exact this
theorem ev_has (l : List Int) (x : Int) (hl : l.length ≤ 1000000) : Ev (fun k => gramaryebase_HasInt.f k l x) (decide (x ∈ l)) := ⟨l.length + 1, fun k hk => has_is l x hl k (by omega)⟩
def addAll (out xs : List Int) : List Int := xs.foldl (fun o x => if x ∈ o then o else o ++ [x]) out
theorem addAll_ext : ∀ (xs out : List Int), ∃ r, addAll out xs = out ++ r ∧ (∀ x, x ∈ addAll out xs ↔ x ∈ out ∨ x ∈ xs) ∧ (out.Nodup → (addAll out xs).Nodup)
  | [], out => ⟨[], by simp [addAll], by simp [addAll], fun h => h⟩
  | x :: xs, out => by
    have e : addAll out (x :: xs) = addAll (if x ∈ out then out else out ++ [x]) xs := rfl
    by_cases c : x ∈ out
    · rw [e, if_pos c]
      obtain ⟨r, h1, h2, h3⟩ := addAll_ext xs out
      exact ⟨r, h1, fun y => by rw [h2, List.mem_cons]; exact ⟨fun h => h.imp id .inr, fun h => h.elim .inl fun h => h.elim (fun e => .inl (e ▸ c)) .inr⟩, h3⟩
    · rw [e, if_neg c]
      obtain ⟨r, h1, h2, h3⟩ := addAll_ext xs (out ++ [x])
      refine ⟨x :: r, by rw [h1]; simp, fun y => by rw [h2, List.mem_append, List.mem_singleton, List.mem_cons]; exact or_assoc, fun h => h3 (List.nodup_append.2 ⟨h, by simp, fun a ha b hb e => ?_⟩)⟩
      have : b = x := by simpa using hb
      exact c (by rw [← this, ← e]; exact ha)
section
variable (t l : Int) (o : List Int) (L : List S51) (all : Bool) (nx : Int → List Int)
theorem ev_f1 {i : Nat} (hi : i < 100000) (xs res : List Int) (hxs : xs.length ≤ 1000) : ∀ (d j : Nat) (out : List Int), j + d = xs.length → out.length + d ≤ 1000000 → Ev (fun k => gramaryeref11_from.l0 k all (addAll out (xs.drop j)) ((i + 1 : Nat) : Int) t l o L) res →
    Ev (fun k => gramaryeref11_from.l1 k all out (i : Int) xs (j : Int) t l o L) res
  | 0, j, out, hj, ho, h => by
    rw [List.drop_of_length_le (by omega)] at h
    refine Ev.step (fun k => ?_) h
    rw [gramaryeref11_from.l1, if_neg (by omega), w1 i (by omega)]; rfl
  | d + 1, j, out, hj, ho, h => by
    have hjl : j < xs.length := by omega
    have hr : rd xs (j : Int) = xs[j] := by unfold rd; rw [Int.toNat_natCast, List.getD_eq_getElem?_getD, List.getElem?_eq_getElem hjl]; rfl
    rw [List.drop_eq_getElem_cons hjl] at h
    have h' : Ev (fun k => gramaryeref11_from.l0 k all (addAll (if xs[j] ∈ out then out else out ++ [xs[j]]) (xs.drop (j + 1))) ((i + 1 : Nat) : Int) t l o L) res := h
    refine Ev.step (f := fun k => (gramaryebase_HasInt.f k out xs[j]).bind fun b => if b = true then gramaryeref11_from.l1 k all out (i : Int) xs ((j + 1 : Nat) : Int) t l o L else if out.length < 17592186044416 then gramaryeref11_from.l1 k all (out ++ [xs[j]]) (i : Int) xs ((j + 1 : Nat) : Int) t l o L else none) (fun k => by
      rw [gramaryeref11_from.l1, if_pos (by omega), if_pos (by omega), hr, w1 j (by omega)]) ?_
    refine Ev.bind (ev_has out xs[j] (by omega)) ?_
    by_cases c : xs[j] ∈ out
    · rw [if_pos c] at h'
      have := ev_f1 hi xs res hxs d (j + 1) out (by omega) (by omega) h'
      refine Ev.congr (fun k => ?_) this
      rw [decide_eq_true c, if_pos rfl]
    · rw [if_neg c] at h'
      have := ev_f1 hi xs res hxs d (j + 1) (out ++ [xs[j]]) (by omega) (by simp; omega) h'
      refine Ev.congr (fun k => ?_) this
      rw [decide_eq_false c, if_neg (by decide), if_pos (by omega)]
theorem ev_f0 (N : Nat) (hN : N ≤ 1000) (S : Int → Prop) (hnx : ∀ a, 0 ≤ a → a < (N : Int) → Ev (fun k => gramaryeref11_Next.f k t l o L a all) (nx a) ∧ (nx a).length ≤ N ∧ ∀ x ∈ nx a, 0 ≤ x ∧ x < (N : Int) ∧ (S a → S x)) : ∀ (d i : Nat) (out : List Int), N ≤ i + d → i ≤ out.length → out.Nodup → (∀ x ∈ out, 0 ≤ x ∧ x < (N : Int) ∧ S x) → (∀ j, (hj : j < out.length) → j < i → ∀ x ∈ nx out[j], x ∈ out) →
    ∃ r, Ev (fun k => gramaryeref11_from.l0 k all out (i : Int) t l o L) r ∧ (∀ x ∈ out, x ∈ r) ∧ r.length ≤ N ∧ (∀ x ∈ r, 0 ≤ x ∧ x < (N : Int) ∧ S x) ∧ ∀ a ∈ r, ∀ x ∈ nx a, x ∈ r := by
  intro d
  induction d with
  | zero =>
    intro i out h1 h2 h3 h4 h5
    have hle := nodup_le N out h3 (fun x hx => ⟨(h4 x hx).1, (h4 x hx).2.1⟩)
    refine ⟨out, ⟨1, fun k hk => ?_⟩, fun x hx => hx, hle, h4, fun a ha x hx => ?_⟩
    · obtain ⟨k, rfl⟩ : ∃ m, k = m + 1 := ⟨k - 1, by omega⟩
      show gramaryeref11_from.l0 (k + 1) all out (i : Int) t l o L = _
      rw [gramaryeref11_from.l0, if_neg (by omega)]
    · obtain ⟨j, hj, rfl⟩ := List.getElem_of_mem ha
      exact h5 j hj (by omega) x hx
  | succ d ih =>
    intro i out h1 h2 h3 h4 h5
    have hle := nodup_le N out h3 (fun x hx => ⟨(h4 x hx).1, (h4 x hx).2.1⟩)
    by_cases hi : i < out.length
    · have hr : rd out (i : Int) = out[i] := by unfold rd; rw [Int.toNat_natCast, List.getD_eq_getElem?_getD, List.getElem?_eq_getElem hi]; rfl
      have h6 := h4 _ (List.getElem_mem hi)
      obtain ⟨n1, n2, n3⟩ := hnx out[i] h6.1 h6.2.1
      obtain ⟨r1, e1, e2, e3⟩ := addAll_ext (nx out[i]) out
      obtain ⟨r, q1, q2, q3⟩ := ih (i + 1) (addAll out (nx out[i])) (by omega) (by rw [e1, List.length_append]; omega) (e3 h3) (fun x hx => by
        rcases (e2 x).1 hx with h | h
        · exact h4 x h
        · exact ⟨(n3 x h).1, (n3 x h).2.1, (n3 x h).2.2 h6.2.2⟩) (fun j hj hji x hx => by
        have hjo : j < out.length := by omega
        have e4 : (addAll out (nx out[i]))[j] = out[j] := by
          have : (addAll out (nx out[i]))[j]? = out[j]? := by rw [e1, List.getElem?_append_left hjo]
          rw [List.getElem?_eq_getElem hj, List.getElem?_eq_getElem hjo] at this
          exact Option.some.inj this
        rw [e4] at hx
        by_cases e : j = i
        · subst e
          exact (e2 x).2 (.inr hx)
        · exact (e2 x).2 (.inl (h5 j hjo (by omega) x hx)))
      refine ⟨r, ?_, fun x hx => q2 x ((e2 x).2 (.inl hx)), q3⟩
      refine Ev.step (f := fun k => (gramaryeref11_Next.f k t l o L out[i] all).bind fun xs => gramaryeref11_from.l1 k all out (i : Int) xs 0 t l o L) (fun k => by
        rw [gramaryeref11_from.l0, if_pos (by omega), if_pos (by omega), hr]) ?_
      exact Ev.bind (f := fun k xs => gramaryeref11_from.l1 k all out (i : Int) xs 0 t l o L) n1 (ev_f1 t l o L all (by omega) (nx out[i]) r (by omega) (nx out[i]).length 0 out (by omega) (by omega) (by rw [List.drop_zero]; exact q1))
    · refine ⟨out, ⟨1, fun k hk => ?_⟩, fun x hx => hx, hle, h4, fun a ha x hx => ?_⟩
      · obtain ⟨k, rfl⟩ : ∃ m, k = m + 1 := ⟨k - 1, by omega⟩
        show gramaryeref11_from.l0 (k + 1) all out (i : Int) t l o L = _
        rw [gramaryeref11_from.l0, if_neg (by omega)]
      · obtain ⟨j, hj, rfl⟩ := List.getElem_of_mem ha
        exact h5 j hj (by omega) x hx
theorem from_is (N : Nat) (hN : N ≤ 1000) (g : List (List Int)) (first : List Int) (hf : first.Nodup) (hf2 : ∀ x ∈ first, 0 ≤ x ∧ x < (N : Int)) (hnx : ∀ a, 0 ≤ a → a < (N : Int) → Ev (fun k => gramaryeref11_Next.f k t l o L a all) (nx a) ∧ (nx a).length ≤ N ∧ ∀ x, x ∈ nx a ↔ x ∈ g.getD a.toNat []) (hg : ∀ i, ∀ x ∈ g.getD i [], 0 ≤ x ∧ x < (N : Int)) :
    ∃ r, Ev (fun k => gramaryeref11_from.f k t l o L first all) r ∧ r.length ≤ N ∧ ∀ x, x ∈ r ↔ ∃ d, lay g first d x := by
  have hfl := nodup_le N first hf hf2
  obtain ⟨r, h1, h2, h3, h4, h5⟩ := ev_f0 t l o L all nx N hN (fun x => ∃ d, lay g first d x) (fun a a0 a1 => ⟨(hnx a a0 a1).1, (hnx a a0 a1).2.1, fun x hx => by
    have hx' := ((hnx a a0 a1).2.2 x).1 hx
    exact ⟨(hg _ x hx').1, (hg _ x hx').2, fun ⟨d, hd⟩ => ⟨d + 1, a, hd, hx'⟩⟩⟩) N 0 first (by omega) (by omega) hf (fun x hx => ⟨(hf2 x hx).1, (hf2 x hx).2, 0, hx⟩) (fun j _ hj => by omega)
  refine ⟨r, ?_, h3, fun x => ⟨fun hx => (h4 x hx).2.2, fun ⟨d, hd⟩ => ?_⟩⟩
  · have e : gramaryebase_Ints.f first = some first := ints_is _ (by omega)
    refine Ev.congr (fun k => ?_) h1
    show (gramaryebase_Ints.f first).bind _ = _
    rw [e]; rfl
  · have : ∀ d x, lay g first d x → x ∈ r := by
      intro d
      induction d with
      | zero => exact fun x hx => h2 x hx
      | succ d ih =>
        rintro x ⟨a, ha, hx⟩
        have har := ih a ha
        have := h4 a har
        exact h5 a har x (((hnx a this.1 this.2.1).2.2 x).2 hx)
    exact this d x hd
end
theorem mem_addF (g : List (List Int)) (n m x : Int) (i : Nat) : x ∈ (addF g n m).getD i [] ↔ x ∈ g.getD i [] ∨ (i = n.toNat ∧ i < g.length ∧ x = m) := by
  unfold addF
  by_cases c : m ∈ g.getD n.toNat []
  · rw [if_pos c]
    exact ⟨.inl, fun h => h.elim id fun ⟨e1, _, e2⟩ => by rw [e1, e2]; exact c⟩
  · rw [if_neg c]
    by_cases e : i = n.toNat
    · subst e
      by_cases hl : n.toNat < g.length
      · rw [List.getD_eq_getElem?_getD, List.getElem?_set_self hl]
        simp only [Option.getD_some, List.mem_append, List.mem_singleton]
        exact ⟨fun h => h.imp id fun h => ⟨trivial, hl, h⟩, fun h => h.imp id fun h => h.2.2⟩
      · rw [List.getD_eq_getElem?_getD, List.getElem?_eq_none (by rw [List.length_set]; omega), List.getD_eq_getElem?_getD, List.getElem?_eq_none (by omega)]
        simp [hl]
    · rw [List.getD_eq_getElem?_getD, List.getElem?_set_ne (fun h => e h.symm), ← List.getD_eq_getElem?_getD]
      exact ⟨.inl, fun h => h.elim id fun h => absurd h.1 e⟩
theorem same_l0 (l : List Int) (hl : l.length ≤ 1000000) : ∀ (d k i : Nat), i + d = l.length → d < k → gramaryebase_SameInts.l0 k l l (i : Int) = some true
  | 0, k, i, h1, h2 => by
    obtain ⟨k, rfl⟩ : ∃ m, k = m + 1 := ⟨k - 1, by omega⟩
    rw [gramaryebase_SameInts.l0, if_neg (by omega)]
  | d + 1, k, i, h1, h2 => by
    obtain ⟨k, rfl⟩ : ∃ m, k = m + 1 := ⟨k - 1, by omega⟩
    rw [gramaryebase_SameInts.l0, if_pos (by omega), if_pos (by omega), if_pos (by omega), if_pos rfl, w1 i (by omega)]
    exact same_l0 l hl d k (i + 1) (by omega) (by omega)
theorem ev_same (l : List Int) (hl : l.length ≤ 1000000) : Ev (fun k => gramaryebase_SameInts.f k l l) true := ⟨l.length + 1, fun k hk => by
  show gramaryebase_SameInts.f k l l = some true
  unfold gramaryebase_SameInts.f
  rw [if_pos rfl]
  exact same_l0 l hl l.length k 0 (by omega) (by omega)⟩
structure Begun (t l : Int) (o : List Int) (L : List S51) (o' : List Int) (L' : List S51) : Prop where
  few : Ev (fun k => gramaryelaw11_few.f k t l o L) (t, l, o', L')
  few2 : Ev (fun k => gramaryelaw11_few.f k t l o' L') (t, l, o', L')
  small : Small 40 60 o' L'
  may : Ev (fun k => gramaryeref09_May.f k t l o' L') (bnf_mayB t l o' L')
  non : bnf_mayB t l o' L' = 0 → ∃ mk, mk.length = o'.length ∧ empty_Nothing.f t l o' L' = some (mk, 0) ∧ Ev (fun k => gramaryeref10_Nothing.f k t l o' L') mk
theorem begun (t l : Int) (o : List Int) (L : List S51) : ∃ o' L', Begun t l o L o' L' := by
  have hs := few_small 10 20 o L
  have hfew : ∀ k, 20000 ≤ k → gramaryeref09_Few.f k t l o L 10 20 = some (t, l, o.take 10, (L.take 20).map cut8) := fun k hk => few_is 10 20 (by omega) (by omega) t l o L k (by omega)
  have hfew2 : ∀ k, 20000 ≤ k → gramaryeref09_Few.f k t l (o.take 10) ((L.take 20).map cut8) 10 20 = some (t, l, o.take 10, (L.take 20).map cut8) := fun k hk => by
    have := few_is 10 20 (by omega) (by omega) t l (o.take 10) ((L.take 20).map cut8) k (by omega)
    rwa [few_again, List.take_take, Nat.min_self] at this
  generalize o.take 10 = o' at hs hfew hfew2
  generalize (L.take 20).map cut8 = L' at hs hfew hfew2
  have hs' : Small 40 60 o' L' := ⟨by have := hs.o; omega, by have := hs.l; omega, hs.r⟩
  refine ⟨o', L', ⟨20000, fun k hk => ?_⟩, ⟨20000, fun k hk => ?_⟩, hs', ⟨20000, fun k hk => may_is (by omega) (by omega) t l o' L' hs' k hk⟩, fun hm => ?_⟩
  · show gramaryelaw11_few.f k t l o L = _
    unfold gramaryelaw11_few.f
    rw [hfew k hk]; rfl
  · show gramaryelaw11_few.f k t l o' L' = _
    unfold gramaryelaw11_few.f
    rw [hfew2 k hk]; rfl
  · obtain ⟨x, hx, x2, xa, xs⟩ := marks_ok false hm hs'
    obtain ⟨x', ⟨K1, hx'⟩, x2', xa', xs'⟩ := ref_marks false hm hs'
    have ex : x = x' := stateB_eq (by rw [x2, x2']) (fun i => unique xa xs xa' xs' i)
    subst ex
    rw [← is_nothing] at hx
    exact ⟨x, x2, hx, K1, fun k hk => by
      show gramaryeref10_Nothing.f k t l o' L' = _
      unfold gramaryeref10_Nothing.f
      rw [show gramaryeref10_mark.f k t l o' L' false = some x from hx' k hk]; rfl⟩
theorem nxt_nodup (mk : List Bool) (all : Bool) (L : List S51) (n : Int) (N : Nat) : (nxt mk all L n N).Nodup := (upTo_nodup N).filter _
theorem nxt_in {mk : List Bool} {all : Bool} {L : List S51} {n : Int} {N : Nat} {x : Int} (h : x ∈ nxt mk all L n N) : 0 ≤ x ∧ x < (N : Int) := by
  unfold nxt at h
  exact mem_upTo.1 (List.mem_filter.1 h).1
theorem allRow_len (n : Int) : ∀ (r : List S59) (g : List (List Int)), (allRow n r g).length = g.length
  | [], g => rfl
  | s :: r, g => by
    rw [allRow, allRow_len n r]
    split
    · rfl
    · rw [addF_length]
theorem mem_allRow (mk : List Bool) (n x : Int) (i : Nat) : ∀ (r : List S59) (g : List (List Int)), x ∈ (allRow n r g).getD i [] ↔ x ∈ g.getD i [] ∨ (i = n.toNat ∧ i < g.length ∧ hitRow mk true x r = true)
  | [], g => by simp [allRow, hitRow]
  | s :: r, g => by
    rw [allRow, hitRow, mem_allRow mk n x i r]
    have e : (s.f1 == x) = true ↔ x = s.f1 := by rw [beq_iff_eq]; exact ⟨Eq.symm, Eq.symm⟩
    cases c : s.f0 with
    | true => simp
    | false =>
      rw [if_neg (by decide), mem_addF, addF_length]
      simp only [Bool.not_false, Bool.true_and, Bool.or_eq_true, e, Bool.true_eq_false, false_and, if_false]
      exact ⟨fun h => h.elim (fun h => h.imp id fun h => ⟨h.1, h.2.1, .inl h.2.2⟩) fun h => .inr ⟨h.1, h.2.1, .inr h.2.2⟩, fun h => h.elim (fun h => .inl (.inl h)) fun ⟨h1, h2, h3⟩ => h3.elim (fun h => .inl (.inr ⟨h1, h2, h⟩)) fun h => .inr ⟨h1, h2, h⟩⟩
theorem mem_allF (mk : List Bool) (x : Int) (i : Nat) : ∀ (L : List S51) (g : List (List Int)), x ∈ (allF L g).getD i [] ↔ x ∈ g.getD i [] ∨ (i < g.length ∧ ∃ p ∈ L, i = p.f0.toNat ∧ hitRow mk true x p.f1 = true)
  | [], g => by simp [allF]
  | p :: r, g => by
    rw [allF, mem_allF mk x i r, mem_allRow mk, allRow_len]
    constructor
    · rintro ((h | ⟨h1, h2, h3⟩) | ⟨h1, q, hq, h2, h3⟩)
      · exact .inl h
      · exact .inr ⟨h2, p, List.mem_cons_self, h1, h3⟩
      · exact .inr ⟨h1, q, List.mem_cons_of_mem _ hq, h2, h3⟩
    · rintro (h | ⟨h1, q, hq, h2, h3⟩)
      · exact .inl (.inl h)
      · rcases List.mem_cons.1 hq with rfl | hq
        · exact .inl (.inr ⟨h2, h1, h3⟩)
        · exact .inr ⟨h1, q, hq, h2, h3⟩
theorem mem_allG {t l : Int} {o : List Int} {L : List S51} (hm : bnf_mayB t l o L = 0) (mk : List Bool) (a x : Int) (a0 : 0 ≤ a) (a1 : a < (o.length : Int)) : x ∈ (allG o L).getD a.toNat [] ↔ x ∈ nxt mk true L a o.length := by
  have hin := may_inN hm
  have key : x ∈ (allG o L).getD a.toNat [] ↔ ∃ p ∈ L, p.f0 = a ∧ hitRow mk true x p.f1 = true := by
    unfold allG
    rw [mem_allF mk, List.length_replicate]
    have e : x ∉ (List.replicate o.length ([] : List Int)).getD a.toNat [] := by
      rw [List.getD_eq_getElem?_getD, List.getElem?_replicate]
      split <;> simp
    constructor
    · rintro (h | ⟨h1, p, hp, h2, h3⟩)
      · exact absurd h e
      · exact ⟨p, hp, by have := (hin p hp).1; omega, h3⟩
    · rintro ⟨p, hp, rfl, h3⟩
      exact .inr ⟨by omega, p, hp, rfl, h3⟩
  have hr : x ∈ (allG o L).getD a.toNat [] → 0 ≤ x ∧ x < (o.length : Int) := (allG_ok hm).1 a.toNat x
  unfold nxt
  rw [List.mem_filter, mem_upTo]
  unfold hits
  rw [List.any_eq_true]
  constructor
  · intro h
    obtain ⟨p, hp, h1, h2⟩ := key.1 h
    exact ⟨hr h, p, hp, by rw [decide_eq_true h1, h2]; rfl⟩
  · rintro ⟨_, p, hp, h⟩
    rw [Bool.and_eq_true, decide_eq_true_iff] at h
    exact key.2 ⟨p, hp, h⟩
theorem stop_reached : ∀ (A : List (Int × Int)) (st : List Bool), (∀ p ∈ A, 0 ≤ p.1 ∧ p.1 < (st.length : Int)) → (stopAt reachedTell A st).length = st.length ∧ ∀ x, 0 ≤ x → rdOf false (stopAt reachedTell A st) x = (decide (x ∈ nodes A) || rdOf false st x)
  | [], st, _ => ⟨rfl, fun x _ => by simp [stopAt, nodes]⟩
  | (a, b) :: r, st, h => by
    have ha := h (a, b) List.mem_cons_self
    obtain ⟨h1, h2⟩ := stop_reached r (st.set a.toNat true) (fun p hp => by rw [List.length_set]; exact h p (List.mem_cons_of_mem _ hp))
    have e : stopAt reachedTell ((a, b) :: r) st = stopAt reachedTell r (st.set a.toNat true) := by
      rw [stopAt]
      exact if_pos rfl
    rw [e]
    refine ⟨by rw [h1, List.length_set], fun x x0 => ?_⟩
    rw [h2 x x0, rd_set st a x ha.1 ha.2 x0]
    have e2 : x ∈ nodes ((a, b) :: r) ↔ x = a ∨ x ∈ nodes r := by
      show x ∈ a :: nodes r ↔ _
      rw [List.mem_cons]
    by_cases c : x = a
    · rw [if_pos c, Bool.or_true, decide_eq_true (e2.2 (.inl c))]; rfl
    · rw [if_neg c]
      congr 1
      have : x ∈ nodes ((a, b) :: r) ↔ x ∈ nodes r := e2.trans ⟨fun h => h.resolve_left c, .inr⟩
      simp only [this]
theorem ev_reached (t l : Int) (o : List Int) (L : List S51) (ho : o.length ≤ 1000) (r : List Int) (hr : r.length ≤ 1000) : ∀ (d i : Nat) (acc : List Bool), i + d = o.length → acc.length = i →
    Ev (fun k => gramaryeref11_Reached.l0 k r acc (i : Int) t l o L) (acc ++ ((upTo o.length).drop i).map fun x => decide (x ∈ r))
  | 0, i, acc, h1, h2 => by
    refine ⟨1, fun k hk => ?_⟩
    obtain ⟨k, rfl⟩ : ∃ m, k = m + 1 := ⟨k - 1, by omega⟩
    show gramaryeref11_Reached.l0 (k + 1) r acc (i : Int) t l o L = _
    rw [gramaryeref11_Reached.l0, if_neg (by omega), List.drop_of_length_le (by rw [upTo_length]; omega)]
    simp
  | d + 1, i, acc, h1, h2 => by
    have ih := ev_reached t l o L ho r hr d (i + 1) (acc ++ [decide ((i : Int) ∈ r)]) (by omega) (by simp [h2])
    refine Ev.step (f := fun k => (gramaryebase_HasInt.f k r (i : Int)).bind fun b => if acc.length < 140737488355328 then gramaryeref11_Reached.l0 k r (acc ++ [b]) ((i + 1 : Nat) : Int) t l o L else none) (fun k => by
      rw [gramaryeref11_Reached.l0, if_pos (by omega), w1 i (by omega)]) ?_
    refine Ev.bind (ev_has r (i : Int) (by omega)) ?_
    simp only [if_pos (show acc.length < 140737488355328 by omega)]
    rw [upTo_drop _ _ (by omega), List.map_cons]
    rw [List.append_assoc] at ih
    exact ih
def deads (m : List Bool) (i : Nat) : List Int := ((upTo m.length).drop i).filter fun x => !rdOf false m x
theorem deads_step (m : List Bool) (i : Nat) (h : i < m.length) : deads m i = if rdOf false m (i : Int) = true then deads m (i + 1) else (i : Int) :: deads m (i + 1) := by
  unfold deads
  rw [upTo_drop _ _ h, List.filter_cons]
  cases rdOf false m (i : Int) <;> simp
theorem deads_end (m : List Bool) (i : Nat) (h : m.length ≤ i) : deads m i = [] := by
  unfold deads
  rw [List.drop_of_length_le (by rw [upTo_length]; exact h)]; rfl
theorem dead_l0 (m : List Bool) (hm : m.length ≤ 1000) (e : Int) : ∀ (d i k : Nat) (acc : List Int), i + d = m.length → acc.length ≤ i → d < k → reach_Dead.l0 k e acc m (m.length : Int) (i : Int) = some (acc ++ deads m i, e)
  | 0, i, k, acc, h1, h2, h3 => by
    obtain ⟨k, rfl⟩ : ∃ m, k = m + 1 := ⟨k - 1, by omega⟩
    rw [reach_Dead.l0, if_neg (by omega), deads_end _ _ (by omega), List.append_nil]
  | d + 1, i, k, acc, h1, h2, h3 => by
    obtain ⟨k, rfl⟩ : ∃ m, k = m + 1 := ⟨k - 1, by omega⟩
    rw [reach_Dead.l0, if_pos (by omega), if_pos (by omega), if_pos (by omega), w1 i (by omega), deads_step m i (by omega)]
    by_cases c : rdOf false m (i : Int) = true
    · rw [if_pos c, if_pos c]
      exact dead_l0 m hm e d (i + 1) k acc (by omega) (by omega) (by omega)
    · rw [if_neg c, if_neg c, if_pos (by omega), dead_l0 m hm e d (i + 1) k _ (by omega) (by simp; omega) (by omega)]
      simp
theorem rdead_l0 (m : List Bool) (hm : m.length ≤ 1000) : ∀ (d i k : Nat) (acc : List Int), i + d = m.length → acc.length ≤ i → d < k → gramaryeref11_Dead.l0 k m acc (i : Int) = some (acc ++ deads m i)
  | 0, i, k, acc, h1, h2, h3 => by
    obtain ⟨k, rfl⟩ : ∃ m, k = m + 1 := ⟨k - 1, by omega⟩
    rw [gramaryeref11_Dead.l0, if_neg (by omega), deads_end _ _ (by omega), List.append_nil]
  | d + 1, i, k, acc, h1, h2, h3 => by
    obtain ⟨k, rfl⟩ : ∃ m, k = m + 1 := ⟨k - 1, by omega⟩
    rw [gramaryeref11_Dead.l0, if_pos (by omega), if_pos (by omega), w1 i (by omega), deads_step m i (by omega)]
    by_cases c : rdOf false m (i : Int) = true
    · rw [if_pos c, if_pos c]
      exact rdead_l0 m hm d (i + 1) k acc (by omega) (by omega) (by omega)
    · rw [if_neg c, if_neg c, if_pos (by omega), rdead_l0 m hm d (i + 1) k _ (by omega) (by simp; omega) (by omega)]
      simp
theorem works_is : Ev (fun k => gramaryelaw11_works.f k) true := Ev.of (fun k => gramaryelaw11_works.mono k) (k := 20) (by decide +kernel)
theorem ReachTells : gramaryelaw11_ReachTells.PureG := by
  intro t l o L _ _ _ _
  obtain ⟨o', L', hb⟩ := begun t l o L
  have ho := hb.small.o
  have hl := hb.small.l
  refine Ev.rounds (Ev.bind (f := fun k _ => _) hb.few (Ev.bind (f := fun k _ => _) hb.few2 ?_))
  by_cases hm : bnf_mayB t l o' L' = 0
  · obtain ⟨mk, hmk, hE, hN⟩ := hb.non hm
    have hin := may_inN hm
    have hok := allG_ok hm
    obtain ⟨x, hx, x2, xa, xs⟩ := marks_ok true hm hb.small
    obtain ⟨x', hx', x2', xa', xs'⟩ := ref_marks true hm hb.small
    have ex : x = x' := stateB_eq (by rw [x2, x2']) (fun i => unique xa xs xa' xs' i)
    subst ex
    rw [← is_ends] at hx
    have h1o : 1 ≤ o'.length := (bnf_may_ok hm).1
    have hfr : ∀ y ∈ ([0] : List Int), 0 ≤ y ∧ y < ((allG o' L').length : Int) := fun y hy => by
      obtain rfl := List.mem_singleton.1 hy
      rw [hok.2]; omega
    obtain ⟨A, lv, a1, a2⟩ := bfs_is (by rw [hok.2]; exact hok.1) hfr (o'.length + 2) (by rw [hok.2]; omega)
    rw [hok.2] at a1
    obtain ⟨s1, s2⟩ := stop_reached A (List.replicate o'.length false) (fun p hp => by have := a2.inn p hp; rw [hok.2] at this; rw [List.length_replicate]; exact this)
    rw [List.length_replicate] at s1
    have hR : reach_Reached.f t l o' L' = some (stopAt reachedTell A (List.replicate o'.length false), 0) := by
      unfold reach_Reached.f
      rw [if_pos hm, walk_bfs _ reachedTell _ _ _ _ A a1]; rfl
    have hnx : ∀ a, Ev (fun k => gramaryeref11_Next.f k t l o' L' a true) (nxt mk true L' a o'.length) := fun a =>
      next_is t l o' L' mk a true (by omega) (by omega) (fun p hp => by have := hb.small.r p hp; omega) (fun p hp => by rw [hmk]; exact (hin p hp).2.2) hN
    obtain ⟨r, r1, r2, r3⟩ := from_is t l o' L' true (fun a => nxt mk true L' a o'.length) o'.length (by omega) (allG o' L') [0] (by simp) (fun y hy => by obtain rfl := List.mem_singleton.1 hy; omega)
      (fun a a0 a1 => ⟨hnx a, nodup_le _ _ (nxt_nodup _ _ _ _ _) (fun x hx => nxt_in hx), fun x => (mem_allG hm mk a x a0 a1).symm⟩) hok.1
    have hRR : Ev (fun k => gramaryeref11_Reached.f k t l o' L') ((upTo o'.length).map fun x => decide (x ∈ r)) := by
      refine Ev.bind (f := fun k t267 => gramaryeref11_Reached.l0 k t267 [] 0 t l o' L') r1 ?_
      have := ev_reached t l o' L' (by omega) r (by omega) o'.length 0 [] (by omega) rfl
      rwa [List.drop_zero, List.nil_append] at this
    have hsame : stopAt reachedTell A (List.replicate o'.length false) = (upTo o'.length).map fun x => decide (x ∈ r) := by
      apply List.ext_getElem (by rw [s1, List.length_map, upTo_length])
      intro i h1 h2
      have h3 := s2 (i : Int) (by omega)
      have h4 : rdOf false (stopAt reachedTell A (List.replicate o'.length false)) (i : Int) = (stopAt reachedTell A (List.replicate o'.length false))[i] := by
        unfold rdOf; rw [Int.toNat_natCast, List.getD_eq_getElem?_getD, List.getElem?_eq_getElem h1]; rfl
      have h5 : rdOf false (List.replicate o'.length false) (i : Int) = false := by
        unfold rdOf; rw [List.getD_eq_getElem?_getD, List.getElem?_replicate]; split <;> rfl
      rw [← h4, h3, h5, Bool.or_false]
      have h6 : ((upTo o'.length).map fun x => decide (x ∈ r))[i] = decide ((i : Int) ∈ r) := by
        rw [List.getElem_map]
        have : (upTo o'.length)[i]'(by rw [upTo_length]; omega) = (i : Int) := by simp [upTo]
        rw [this]
      rw [h6]
      have h7 : (i : Int) ∈ nodes A ↔ (i : Int) ∈ r := by rw [a2.mem, r3]
      simp only [h7]
    have hD : Ev (fun k => reach_Dead.f k t l o' L') (deads x 0, 0) := ⟨2000, fun k hk => by
      show reach_Dead.f k t l o' L' = _
      unfold reach_Dead.f
      rw [show empty_Ends.f t l o' L' = some (x, 0) from hx]
      simp only [Option.bind_some, if_true]
      have := dead_l0 x (by omega) 0 x.length 0 k [] (by omega) (by simp) (by omega)
      simpa using this⟩
    have hDR : Ev (fun k => gramaryeref11_Dead.f k t l o' L') (deads x 0) := by
      refine Ev.bind (f := fun k t282 => gramaryeref11_Dead.l0 k t282 [] 0) (Ev.bind (f := fun _ q => some q) hx' (Ev.now _)) ⟨2000, fun k hk => ?_⟩
      have := rdead_l0 x (by omega) x.length 0 k [] (by omega) (by simp) (by omega)
      simpa using this
    simp only [hR, Option.bind_some]
    refine Ev.bind (f := fun k _ => _) hD (Ev.bind (f := fun k q => gramaryelaw11_ReachTells.g k _ _ _ q) hb.may ?_)
    unfold gramaryelaw11_ReachTells.g
    simp only [if_pos hm]
    rw [hsame]
    refine Ev.bind (g := fun k => gramaryeref11_Reached.f k t l o' L') hRR ?_
    simp only [true_and, if_true]
    have hdl : (deads x 0).length ≤ 1000000 := by
      unfold deads
      have := List.length_filter_le (fun y => !rdOf false x y) ((upTo x.length).drop 0)
      rw [List.drop_zero, upTo_length] at this
      rw [List.drop_zero]
      omega
    refine Ev.bind (f := fun k d => (gramaryebase_SameInts.f k (deads x 0) d).bind _) hDR (Ev.bind (f := fun k s => if s = true then _ else _) (ev_same (deads x 0) hdl) ?_)
    simp only [if_true]
    exact works_is
  · have hR : reach_Reached.f t l o' L' = some ([], bnf_mayB t l o' L') := by
      unfold reach_Reached.f
      rw [if_neg hm]
    have hD : Ev (fun k => reach_Dead.f k t l o' L') ([], bnf_mayB t l o' L') := ⟨0, fun k _ => by
      show reach_Dead.f k t l o' L' = _
      unfold reach_Dead.f
      rw [show empty_Ends.f t l o' L' = some ([], bnf_mayB t l o' L') by unfold empty_Ends.f empty_marksF; rw [if_neg hm]]
      simp only [Option.bind_some, if_neg hm]⟩
    simp only [hR, Option.bind_some]
    refine Ev.bind (f := fun k _ => _) hD (Ev.bind (f := fun k q => gramaryelaw11_ReachTells.g k _ _ _ q) hb.may ?_)
    unfold gramaryelaw11_ReachTells.g
    simp only [if_neg hm]
    rw [show (([] : List Bool).length : Int) + (([] : List Int).length : Int) = 0 from rfl, w64 (by omega) (by omega)]
    simp only [true_and, if_true]
    exact works_is
end Go.Proofs.Ytmpdilifoblnaaa.Pure
end
section
namespace Go.Proofs.Ytmpdilifoblnaaa.reachTells
open Go.ChangeShapes Go.WideShapes Go.ChangeAt Go.RowKit Go.Proofs.Ytmpdilifoblnaaa.MReachTells Go.Proofs.YtmpdilifoblnaaaW.PrintWords Go.Proofs.Ytmpdilifoblnaaa.Reads
open Go.ChangeMaps (open_string shut_string)
set_option linter.unusedVariables false
set_option linter.unusedSimpArgs false
theorem own : ownKnob Try.prog.godebug = none := by kernel_rfl
theorem laidOut : laidOutB Try.prog = true := by kernel_rfl
set_option maxRecDepth 100000 in
theorem contract (H : Type) (enc : TypeId × Value → H) (W : World) (base : Nat) (args : Array Value) (ds gs : List (DataW H)) (before : List MemPlace)
    (hval : ∀ (j : Nat) t v, Try.f9.params[j]? = some t → args[j]? = some v → Value.okWide Try.prog W .any base t v)
    (hW : DataW.Whole enc Try.prog Try.f9.params.toList Rows.reachTellsSpec.vars false W args.toList ds gs before)
    (hsz : (DataW.weightsEach Try.prog (Try.f9.params.toList ++ Rows.reachTellsSpec.plain.varTypes Try.prog) (ds ++ gs)).all (· ≤ reachBytes) = true) :
    Calls Try.prog 9 args W fun e W' => ∃ v, e = .returned v ∧ Rows.reachTellsSpec.post enc Try.prog Try.f9 false true false false W args v W' := by
  have hW' := hW
  obtain ⟨p, q, hA0, hV, rfl, hfz, hnd⟩ := hW
  have hA : DataW.TrodAll enc Try.prog W 0 (fun _ => true) true Try.f9.params.toList args.toList ds p := hA0
  rw [Try.params9] at hA hval hsz
  obtain ⟨v0, vs0, d0, ds0, p0, q0, hargs, rfl, rfl, h0, r0⟩ := trodAll_cons hA
  obtain ⟨rfl, rfl, rfl⟩ := trodAll_nil r0
  obtain rfl : args = #[v0] := by cases args; simp_all
  obtain ⟨rfl, rfl⟩ := trodVars_none hV
  have k0 := h0
  have lt0 : ∀ x ∈ p0, x.block < W.heap.size := by obtain ⟨m, hm⟩ := k0; exact DataW.trod_lt m _ _ _ hm
  have z0 := weights_at hsz (j := 0) (t := 25) rfl rfl
  obtain ⟨x0, hK0, hG0⟩ := open_at (fits_struct Try.underlying25 (by kernel_rfl) (fitsF_cons 0 (fits_int Try.prog .i64 Try.underlying3) rfl (by kernel_rfl) (fitsF_cons 1 (fits_int Try.prog .i64 Try.underlying3) rfl (by kernel_rfl) (fitsF_cons 2 (fits_slice 3 8 Try.underlying22 (by kernel_rfl) (by kernel_rfl) (fits_int Try.prog .i64 Try.underlying3)) rfl (by kernel_rfl) (fitsF_one 3 (fits_slice 51 32 Try.underlying23 (by kernel_rfl) (by kernel_rfl) fits51) rfl (by kernel_rfl)))))) h0 z0
  have hO0 : ∃ A0_0 c0_0 A0_1 c0_1, v0.cells.toList = [.int .i64 x0.1, .int .i64 x0.2.1, .slice A0_0 x0.2.2.1.length c0_0, .slice A0_1 x0.2.2.2.length c0_1] ∧ x0.2.2.1.length ≤ c0_0 ∧ Kd.C (Kd.int .i64) W A0_0 x0.2.2.1.length x0.2.2.1 ∧ x0.2.2.2.length ≤ c0_1 ∧ Kd.C k51 W A0_1 x0.2.2.2.length x0.2.2.2 := by
    obtain ⟨_, _, hq_, rfl, ⟨_, _, rfl, rfl, ⟨_, _, rfl, ⟨A0_0, c0_0, rfl, l0_0, g0_0⟩, ⟨A0_1, c0_1, rfl, l0_1, g0_1⟩⟩⟩⟩ := hK0
    exact ⟨A0_0, c0_0, A0_1, c0_1, hq_, l0_0, g0_0, l0_1, g0_1⟩
  obtain ⟨A0_0, c0_0, A0_1, c0_1, hcs0, l0_0, g0_0, l0_1, g0_1⟩ := hO0
  obtain ⟨cs0, rfl, hsize0⟩ := okWide_struct Try.underlying25 (hval 0 25 v0 rfl rfl)
  obtain rfl : cs0 = #[.int .i64 x0.1, .int .i64 x0.2.1, .slice A0_0 x0.2.2.1.length c0_0, .slice A0_1 x0.2.2.2.length c0_1] := Array.toList_inj.1 hcs0
  obtain ⟨hG0_0, hG0_1, hG0_2, hG0_3⟩ := hG0
  clear hA0 hval hsz
  obtain ⟨k, h⟩ := Pure.ReachTells (x0.1) (x0.2.1) (x0.2.2.1) (x0.2.2.2) hG0_0 hG0_1 hG0_2 hG0_3
  refine (gramaryelaw11_ReachTells.calls k (x0.1) (x0.2.1) A0_0 c0_0 (x0.2.2.1) A0_1 c0_1 (x0.2.2.2) true W g0_0 l0_0 g0_1 l0_1 h).mono fun e W' ⟨he, bel0⟩ => ?_
  have bel : Below W.heap.size W W' := bel0
  subst he
  exact ⟨_, rfl, _, _, _, [], _, [], hW', trodAll_mk1 (shut_bool Try.underlying4 _), (trodAll_cons_mk (Below.trod laidOut (by kernel_rfl) (of_decide_eq_true (by kernel_rfl)) k0 bel lt0) trodAll_mk0), rfl, bel.frame _, fun h => by cases h⟩
set_option maxRecDepth 100000 in
theorem lifted (os : Os) (started : os.Started) (H : Type) (enc : TypeId × Value → H) :
    ReturnsInHanded {} Try.checked os 9 .any (Rows.reachTellsSpec.pre6 enc Try.prog Try.f9 Rows.reachTellsRow.domain false) (Rows.reachTellsSpec.post enc Try.prog Try.f9 false true false false) := by
  refine returnsInHanded_of_change_sized (C := Try.checked) own started (by kernel_rfl) Try.func9
    (ChangeSpec.witness6 (enc := enc) (C := Try.checked) false ⟨#[], #[.agg #[.int .i64 0, .int .i64 0, .slice none 0 0, .slice none 0 0]], []⟩ 8 (by kernel_rfl) (by kernel_rfl) (by kernel_rfl) (by kernel_rfl)) ?_
  intro W base args ds gs before hval hW hcnd hsz _
  exact contract H enc W base args ds gs before hval hW hsz
theorem over : Rows.reachTellsRow.holds Try.pinned (OpenSpec.ofChange Rows.reachTellsSpec) :=
  OpenClaim.holds_of_wide 9 Try.f9 rfl rfl rfl rfl rfl rfl rfl ⟨rfl, rfl, rfl, rfl, rfl⟩ rfl rfl rfl rfl rfl (by kernel_rfl) Try.func9 (by kernel_rfl)
    (of_decide_eq_true (by kernel_rfl)) (by unfold Func.isWrapper; first | (rw [if_pos (by decide +kernel)]; kernel_rfl) | (rw [if_neg (by decide +kernel)]; exact ⟨rfl, rfl⟩))
    (fun os started H enc _ => lifted os started H enc)
theorem proved : Rows.ReachTellsSaid := over
end Go.Proofs.Ytmpdilifoblnaaa.reachTells
namespace Go.Proofs.Ytmpdilifoblnaaa
theorem reachTells_holds : Rows.ReachTellsSaid := reachTells.proved
end Go.Proofs.Ytmpdilifoblnaaa
end
