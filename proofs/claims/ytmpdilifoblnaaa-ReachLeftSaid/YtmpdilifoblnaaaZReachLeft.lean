/- For any plain rules, what begins with itself, and whether any begins with any other one, is as the document says, or refused. It holds for all rules that are cut to ten nonterminals and twenty productions. -/
import Derived.Test.YtmpdilifoblnaaaRows
import Derived.WalkKit
import Derived.ProofKit
import Derived.OpenShut
import Derived.ShutString
import Derived.ChangeOld
import Derived.Below
import Derived.SizedLaws
import Derived.Carry
import Derived.Test.YtmpdilifoblnaaaZReachLeftx2
import Derived.Test.YtmpdilifoblnaaaZReachLeftx0
import Derived.Test.YtmpdilifoblnaaaZReachLeftx1
import Derived.Test.YtmpdilifoblnaaaZReachLeftReads
import Derived.Test.YtmpdilifoblnaaaZReachLeftBase
import Derived.Test.YtmpdilifoblnaaaZReachLeftFix
section
namespace Go.Proofs.Ytmpdilifoblnaaa.MReachLeft
open Go.RowKit Go.Proofs.YtmpdilifoblnaaaW.PrintWords Go.Proofs.YtmpdilifoblnaaaW.PrintLast Go.Proofs.YtmpdilifoblnaaaW.PrintMore Go.Proofs.Ytmpdilifoblnaaa.Fun Go.Proofs.Ytmpdilifoblnaaa.Mem
attribute [local go_sem] max2_int min2_int max_two min_two max_three min_three max_four min_four
set_option linter.unusedVariables false
set_option linter.unusedSimpArgs false
def gramaryelaw11_ReachLeft.j0 : Nat → Int → Int → List Int → Int → Bool → Bool → Int → Int → List Int → List (S51) → Option (Bool)
  | 0, _, _, _, _, _, _, _, _, _, _ => none
  | k + 1, x1, x2, x7, x8, x9, x11, x271000, x271001, x271002, x271003 => if x8 = 0 then ((gramaryeref11_Left.f k x271000 x271001 x271002 x271003).bind fun t302 => ((gramaryebase_SameInts.f k x7 t302).bind fun t305 => (if t305 = true then (if x11 = true then ((gramaryeref11_Begins.f k x271000 x271001 x271002 x271003 x1 x2).bind fun t306 => (if (x9 == t306) = true then ((gramaryelaw11_works.f k).bind fun t307 => (some t307)) else (some false))) else (if (x9 == false) = true then ((gramaryelaw11_works.f k).bind fun t308 => (some t308)) else (some false))) else (some false)))) else (some false)
def gramaryelaw11_ReachLeft.f (k : Nat) (a0_0 : Int) (a0_1 : Int) (l0_2 : List Int) (l0_3 : List (S51)) (a1 : Int) (a2 : Int) : Option (Bool) := (gramaryelaw11_few.f k a0_0 a0_1 l0_2 l0_3).bind fun bt271 => ((gramaryelaw11_few.f k bt271.1 bt271.2.1 bt271.2.2.1 bt271.2.2.2).bind fun bt279 => ((reach_Left.f bt279.1 bt279.2.1 bt279.2.2.1 bt279.2.2.2).bind fun bt287 => ((gramaryelaw11_few.f k bt271.1 bt271.2.1 bt271.2.2.1 bt271.2.2.2).bind fun bt291 => ((reach_Begins.f bt291.1 bt291.2.1 bt291.2.2.1 bt291.2.2.2 a1 a2).bind fun t299 => ((gramaryeref09_May.f k bt271.1 bt271.2.1 bt271.2.2.1 bt271.2.2.2).bind fun t300 => (if t300 = 0 then (if a1 ≥ 0 then (if a2 ≥ 0 then (if a1 < (bt271.2.2.1.length : Int) then (gramaryelaw11_ReachLeft.j0 k a1 a2 bt287.1 bt287.2 t299 (decide (a2 < (bt271.2.2.1.length : Int))) bt271.1 bt271.2.1 bt271.2.2.1 bt271.2.2.2) else (gramaryelaw11_ReachLeft.j0 k a1 a2 bt287.1 bt287.2 t299 false bt271.1 bt271.2.1 bt271.2.2.1 bt271.2.2.2)) else (gramaryelaw11_ReachLeft.j0 k a1 a2 bt287.1 bt287.2 t299 false bt271.1 bt271.2.1 bt271.2.2.1 bt271.2.2.2)) else (gramaryelaw11_ReachLeft.j0 k a1 a2 bt287.1 bt287.2 t299 false bt271.1 bt271.2.1 bt271.2.2.1 bt271.2.2.2)) else (if bt287.2 = t300 then (if (bt287.1.length : Int) = 0 then (if t299 = true then (some false) else ((gramaryelaw11_works.f k).bind fun t301 => (some t301))) else (some false)) else (some false))))))))
set_option maxHeartbeats 8000000 in
set_option maxRecDepth 100000 in
theorem gramaryelaw11_ReachLeft.calls (k : Nat) (a0_0 : Int) (a0_1 : Int) (A0_2 : Option Addr) (c0_2 : Nat) (l0_2 : List Int) (A0_3 : Option Addr) (c0_3 : Nat) (l0_3 : List (S51)) (a1 : Int) (a2 : Int) (r : Bool) (w : World) (hr0_2 : Kd.C (Kd.int .i64) w A0_2 l0_2.length l0_2) (hc0_2 : l0_2.length ≤ c0_2) (hr0_3 : Kd.C k51 w A0_3 l0_3.length l0_3) (hc0_3 : l0_3.length ≤ c0_3) (h : gramaryelaw11_ReachLeft.f k a0_0 a0_1 l0_2 l0_3 a1 a2 = some r) :
    Calls Try.prog 7 #[.agg #[.int .i64 a0_0, .int .i64 a0_1, .slice A0_2 l0_2.length c0_2, .slice A0_3 l0_3.length c0_3], .int .i64 a1, .int .i64 a2] w fun e w' => e = .returned (.bool r) ∧ Below w.heap.size w w' := by
  have hu25 := Try.underlying25
  have HR0_2 := Aside0.mk hr0_2
  have HC0_2 := Aside0.mk hc0_2
  clear hr0_2 hc0_2
  have HR0_3 := Aside0.mk hr0_3
  have HC0_3 := Aside0.mk hc0_3
  clear hr0_3 hc0_3
  have HB := Aside0.mk (Below.refl w.heap.size w)
  have H : ((gramaryelaw11_few.f k a0_0 a0_1 l0_2 l0_3).bind fun bt271 => ((gramaryelaw11_few.f k bt271.1 bt271.2.1 bt271.2.2.1 bt271.2.2.2).bind fun bt279 => ((reach_Left.f bt279.1 bt279.2.1 bt279.2.2.1 bt279.2.2.2).bind fun bt287 => ((gramaryelaw11_few.f k bt271.1 bt271.2.1 bt271.2.2.1 bt271.2.2.2).bind fun bt291 => ((reach_Begins.f bt291.1 bt291.2.1 bt291.2.2.1 bt291.2.2.2 a1 a2).bind fun t299 => ((gramaryeref09_May.f k bt271.1 bt271.2.1 bt271.2.2.1 bt271.2.2.2).bind fun t300 => (if t300 = 0 then (if a1 ≥ 0 then (if a2 ≥ 0 then (if a1 < (bt271.2.2.1.length : Int) then (gramaryelaw11_ReachLeft.j0 k a1 a2 bt287.1 bt287.2 t299 (decide (a2 < (bt271.2.2.1.length : Int))) bt271.1 bt271.2.1 bt271.2.2.1 bt271.2.2.2) else (gramaryelaw11_ReachLeft.j0 k a1 a2 bt287.1 bt287.2 t299 false bt271.1 bt271.2.1 bt271.2.2.1 bt271.2.2.2)) else (gramaryelaw11_ReachLeft.j0 k a1 a2 bt287.1 bt287.2 t299 false bt271.1 bt271.2.1 bt271.2.2.1 bt271.2.2.2)) else (gramaryelaw11_ReachLeft.j0 k a1 a2 bt287.1 bt287.2 t299 false bt271.1 bt271.2.1 bt271.2.2.1 bt271.2.2.2)) else (if bt287.2 = t300 then (if (bt287.1.length : Int) = 0 then (if t299 = true then (some false) else ((gramaryelaw11_works.f k).bind fun t301 => (some t301))) else (some false)) else (some false))))))))) = some r := h
  clear h
  replace H := Option.bind_eq_some_iff.mp H
  obtain ⟨⟨t271, t272, t273, t276⟩, A40, H⟩ := H
  replace H : ((gramaryelaw11_few.f k t271 t272 t273 t276).bind fun bt279 => ((reach_Left.f bt279.1 bt279.2.1 bt279.2.2.1 bt279.2.2.2).bind fun bt287 => ((gramaryelaw11_few.f k t271 t272 t273 t276).bind fun bt291 => ((reach_Begins.f bt291.1 bt291.2.1 bt291.2.2.1 bt291.2.2.2 a1 a2).bind fun t299 => ((gramaryeref09_May.f k t271 t272 t273 t276).bind fun t300 => (if t300 = 0 then (if a1 ≥ 0 then (if a2 ≥ 0 then (if a1 < (t273.length : Int) then (gramaryelaw11_ReachLeft.j0 k a1 a2 bt287.1 bt287.2 t299 (decide (a2 < (t273.length : Int))) t271 t272 t273 t276) else (gramaryelaw11_ReachLeft.j0 k a1 a2 bt287.1 bt287.2 t299 false t271 t272 t273 t276)) else (gramaryelaw11_ReachLeft.j0 k a1 a2 bt287.1 bt287.2 t299 false t271 t272 t273 t276)) else (gramaryelaw11_ReachLeft.j0 k a1 a2 bt287.1 bt287.2 t299 false t271 t272 t273 t276)) else (if bt287.2 = t300 then (if (bt287.1.length : Int) = 0 then (if t299 = true then (some false) else ((gramaryelaw11_works.f k).bind fun t301 => (some t301))) else (some false)) else (some false)))))))) = some r := H
  have A4 := Aside0.mk A40
  clear A40
  replace H := Option.bind_eq_some_iff.mp H
  obtain ⟨⟨t279, t280, t281, t284⟩, A50, H⟩ := H
  replace H : ((reach_Left.f t279 t280 t281 t284).bind fun bt287 => ((gramaryelaw11_few.f k t271 t272 t273 t276).bind fun bt291 => ((reach_Begins.f bt291.1 bt291.2.1 bt291.2.2.1 bt291.2.2.2 a1 a2).bind fun t299 => ((gramaryeref09_May.f k t271 t272 t273 t276).bind fun t300 => (if t300 = 0 then (if a1 ≥ 0 then (if a2 ≥ 0 then (if a1 < (t273.length : Int) then (gramaryelaw11_ReachLeft.j0 k a1 a2 bt287.1 bt287.2 t299 (decide (a2 < (t273.length : Int))) t271 t272 t273 t276) else (gramaryelaw11_ReachLeft.j0 k a1 a2 bt287.1 bt287.2 t299 false t271 t272 t273 t276)) else (gramaryelaw11_ReachLeft.j0 k a1 a2 bt287.1 bt287.2 t299 false t271 t272 t273 t276)) else (gramaryelaw11_ReachLeft.j0 k a1 a2 bt287.1 bt287.2 t299 false t271 t272 t273 t276)) else (if bt287.2 = t300 then (if (bt287.1.length : Int) = 0 then (if t299 = true then (some false) else ((gramaryelaw11_works.f k).bind fun t301 => (some t301))) else (some false)) else (some false))))))) = some r := H
  have A5 := Aside0.mk A50
  clear A50
  replace H := Option.bind_eq_some_iff.mp H
  obtain ⟨⟨t287, t290⟩, A60, H⟩ := H
  replace H : ((gramaryelaw11_few.f k t271 t272 t273 t276).bind fun bt291 => ((reach_Begins.f bt291.1 bt291.2.1 bt291.2.2.1 bt291.2.2.2 a1 a2).bind fun t299 => ((gramaryeref09_May.f k t271 t272 t273 t276).bind fun t300 => (if t300 = 0 then (if a1 ≥ 0 then (if a2 ≥ 0 then (if a1 < (t273.length : Int) then (gramaryelaw11_ReachLeft.j0 k a1 a2 t287 t290 t299 (decide (a2 < (t273.length : Int))) t271 t272 t273 t276) else (gramaryelaw11_ReachLeft.j0 k a1 a2 t287 t290 t299 false t271 t272 t273 t276)) else (gramaryelaw11_ReachLeft.j0 k a1 a2 t287 t290 t299 false t271 t272 t273 t276)) else (gramaryelaw11_ReachLeft.j0 k a1 a2 t287 t290 t299 false t271 t272 t273 t276)) else (if t290 = t300 then (if (t287.length : Int) = 0 then (if t299 = true then (some false) else ((gramaryelaw11_works.f k).bind fun t301 => (some t301))) else (some false)) else (some false)))))) = some r := H
  have A6 := Aside0.mk A60
  clear A60
  replace H := Option.bind_eq_some_iff.mp H
  obtain ⟨⟨t291, t292, t293, t296⟩, A70, H⟩ := H
  replace H : ((reach_Begins.f t291 t292 t293 t296 a1 a2).bind fun t299 => ((gramaryeref09_May.f k t271 t272 t273 t276).bind fun t300 => (if t300 = 0 then (if a1 ≥ 0 then (if a2 ≥ 0 then (if a1 < (t273.length : Int) then (gramaryelaw11_ReachLeft.j0 k a1 a2 t287 t290 t299 (decide (a2 < (t273.length : Int))) t271 t272 t273 t276) else (gramaryelaw11_ReachLeft.j0 k a1 a2 t287 t290 t299 false t271 t272 t273 t276)) else (gramaryelaw11_ReachLeft.j0 k a1 a2 t287 t290 t299 false t271 t272 t273 t276)) else (gramaryelaw11_ReachLeft.j0 k a1 a2 t287 t290 t299 false t271 t272 t273 t276)) else (if t290 = t300 then (if (t287.length : Int) = 0 then (if t299 = true then (some false) else ((gramaryelaw11_works.f k).bind fun t301 => (some t301))) else (some false)) else (some false))))) = some r := H
  have A7 := Aside0.mk A70
  clear A70
  replace H := Option.bind_eq_some_iff.mp H
  obtain ⟨t299, A80, H⟩ := H
  replace H : ((gramaryeref09_May.f k t271 t272 t273 t276).bind fun t300 => (if t300 = 0 then (if a1 ≥ 0 then (if a2 ≥ 0 then (if a1 < (t273.length : Int) then (gramaryelaw11_ReachLeft.j0 k a1 a2 t287 t290 t299 (decide (a2 < (t273.length : Int))) t271 t272 t273 t276) else (gramaryelaw11_ReachLeft.j0 k a1 a2 t287 t290 t299 false t271 t272 t273 t276)) else (gramaryelaw11_ReachLeft.j0 k a1 a2 t287 t290 t299 false t271 t272 t273 t276)) else (gramaryelaw11_ReachLeft.j0 k a1 a2 t287 t290 t299 false t271 t272 t273 t276)) else (if t290 = t300 then (if (t287.length : Int) = 0 then (if t299 = true then (some false) else ((gramaryelaw11_works.f k).bind fun t301 => (some t301))) else (some false)) else (some false)))) = some r := H
  have A8 := Aside0.mk A80
  clear A80
  replace H := Option.bind_eq_some_iff.mp H
  obtain ⟨t300, A90, H⟩ := H
  replace H : (if t300 = 0 then (if a1 ≥ 0 then (if a2 ≥ 0 then (if a1 < (t273.length : Int) then (gramaryelaw11_ReachLeft.j0 k a1 a2 t287 t290 t299 (decide (a2 < (t273.length : Int))) t271 t272 t273 t276) else (gramaryelaw11_ReachLeft.j0 k a1 a2 t287 t290 t299 false t271 t272 t273 t276)) else (gramaryelaw11_ReachLeft.j0 k a1 a2 t287 t290 t299 false t271 t272 t273 t276)) else (gramaryelaw11_ReachLeft.j0 k a1 a2 t287 t290 t299 false t271 t272 t273 t276)) else (if t290 = t300 then (if (t287.length : Int) = 0 then (if t299 = true then (some false) else ((gramaryelaw11_works.f k).bind fun t301 => (some t301))) else (some false)) else (some false))) = some r := H
  have A9 := Aside0.mk A90
  clear A90
  by_cases c10 : t300 = 0
  · rw [if_pos c10] at H
    have c10b0 : (t300 == 0) = true := beq_iff_eq.mpr c10
    have c10b1 : (t300 != 0) = false := bne_eq_false_iff_eq.mpr c10
    clear c10
    have HC11 := Aside0.mk H
    clear H
    go_enter Try.func7, Try.ntmps7
    go_upto_region 7 with (first | ((with_reducible refine gate_dst (N := 3) rfl ?_); (try (refine gate_guard (by rfl) ?_; dsimp only)); refine box_event ?hg (N := 3) ?hd (cs := #[.int .i64 a0_0, .int .i64 a0_1, .slice A0_2 l0_2.length c0_2, .slice A0_3 l0_3.length c0_3]) (t := 25) ?hr ?_; (case hd => rfl); (case hg => rfl); (case hr => first | (go_simp; done) | (go_simp; rfl)); intro gb270 hg w12 hbox hb; have n0_ := Aside0.mk (below_step (by repeat (first | (with_reducible first | exact HB.out | apply below_alloc | apply pw_below_drewN | apply below_drew1) | exact HB.out)) hb); have n1_ := Aside0.mk (hbox); have n2_ := Aside0.mk ((by rw [hg]; exact (below_size (by repeat (first | (with_reducible first | exact HB.out | apply below_alloc | apply pw_below_drewN | apply below_drew1) | exact HB.out))) : w.heap.size ≤ gb270)); have n3_ := Aside0.mk ((by rw [hg]; exact (below_size (by repeat (first | (with_reducible first | exact HB.out | apply below_alloc | apply pw_below_drewN | apply below_drew1) | exact HB.out))) : w.heap.size ≤ gb270)); clear HB; have HB := n0_; have BK270 := n1_; have GW270 := n2_; have GE270 := n3_; clear n0_ n1_ n2_ n3_; clear hb hbox hg; have hcz13_0 : w12.cell? ⟨gb270, 0, none⟩ = some (.int .i64 a0_0) := (blk_cell BK270.out 0).trans rfl; have hcz13_1 : w12.cell? ⟨gb270, 1, none⟩ = some (.int .i64 a0_1) := (blk_cell BK270.out 1).trans rfl; have hcz13_2 : w12.cell? ⟨gb270, 2, none⟩ = some (.slice A0_2 l0_2.length c0_2) := (blk_cell BK270.out 2).trans rfl; have hcz13_3 : w12.cell? ⟨gb270, 3, none⟩ = some (.slice A0_3 l0_3.length c0_3) := (blk_cell BK270.out 3).trans rfl; have hfz13_0 := blk_frozen BK270.out 0; have hfz13_1 := blk_frozen BK270.out 1; have hfz13_2 := blk_frozen BK270.out 2; have hfz13_3 := blk_frozen BK270.out 3) | ((with_reducible refine gate_callee (f := 23) rfl ?_); refine goesL_ (some 13) rfl rfl Try.func23 (by kernel_rfl) rfl #[.agg #[.int .i64 a0_0, .int .i64 a0_1, .slice A0_2 l0_2.length c0_2, .slice A0_3 l0_3.length c0_3]] rfl (by (try simp only [List.map_toArray, List.map_cons, List.map_nil]); first | done | rfl | (simp only [List.length_drop, List.length_take]; rfl)) ?_; (with_reducible refine (gramaryelaw11_few.calls k a0_0 a0_1 _ _ l0_2 _ _ l0_3 t271 t272 t273 t276 _ ?side1 ?side2 ?side3 ?side4 A4.out).mono ?_); (case side1 => repeat (first | exact (Kd.C_below HR0_2.out HB.out) | (with_reducible refine Kd.C_alloc ?_ _) | (with_reducible refine Kd.C_drewN ?_ _) | (with_reducible refine Kd.C_drew ?_))); (case side2 => exact HC0_2.out); (case side3 => repeat (first | exact (Kd.C_below HR0_3.out HB.out) | (with_reducible refine Kd.C_alloc ?_ _) | (with_reducible refine Kd.C_drewN ?_ _) | (with_reducible refine Kd.C_drew ?_))); (case side4 => exact HC0_3.out); rintro e w14 ⟨v274, v277, rfl, ho0, ho1, hb⟩; refine ⟨_, rfl, ?_⟩; have n0_ := Aside0.mk (Kd.R_lower ho0 (below_size (by repeat (first | (with_reducible first | exact HB.out | apply below_alloc | apply pw_below_drewN | apply below_drew1 | refine below_set ?_ GE270.out) | exact HB.out)))); have n1_ := Aside0.mk (Kd.S_lower ho1 (below_size (by repeat (first | (with_reducible first | exact HB.out | apply below_alloc | apply pw_below_drewN | apply below_drew1 | refine below_set ?_ GE270.out) | exact HB.out)))); have n2_ := Aside0.mk (blk_below (g := gb270) (o := .cells #[.int .i64 a0_0, .int .i64 a0_1, .slice A0_2 l0_2.length c0_2, .slice A0_3 l0_3.length c0_3] 25 (0, 0)) (by (with_reducible repeat (first | refine blk_drewN ?_ _ | refine blk_drew ?_ | refine blk_alloc ?_ _)); exact BK270.out) hb); have n3_ := Aside0.mk (below_step (by repeat (first | (with_reducible first | exact HB.out | apply below_alloc | apply pw_below_drewN | apply below_drew1 | refine below_set ?_ GE270.out) | exact HB.out)) hb); clear BK270; clear HB; have HO275 := n0_; have HO278 := n1_; have BK270 := n2_; have HB := n3_; clear n0_ n1_ n2_ n3_; (try clear hb); (try clear hb2); (try clear hk); (try clear hi); (try clear ho0); (try clear ho1); have hcz15_0 : w14.cell? ⟨gb270, 0, none⟩ = some (.int .i64 a0_0) := (blk_cell BK270.out 0).trans rfl; have hcz15_1 : w14.cell? ⟨gb270, 1, none⟩ = some (.int .i64 a0_1) := (blk_cell BK270.out 1).trans rfl; have hcz15_2 : w14.cell? ⟨gb270, 2, none⟩ = some (.slice A0_2 l0_2.length c0_2) := (blk_cell BK270.out 2).trans rfl; have hcz15_3 : w14.cell? ⟨gb270, 3, none⟩ = some (.slice A0_3 l0_3.length c0_3) := (blk_cell BK270.out 3).trans rfl; have hfz15_0 := blk_frozen BK270.out 0; have hfz15_1 := blk_frozen BK270.out 1; have hfz15_2 := blk_frozen BK270.out 2; have hfz15_3 := blk_frozen BK270.out 3; obtain ⟨Ao16, co16, eo16⟩ := Kd.R_slice HO275.out; subst eo16; obtain ⟨Ao17, co17, eo17⟩ := Kd.S_slice HO278.out; subst eo17) | ((with_reducible refine gate_callee (f := 23) rfl ?_); refine goesL_ (some 16) rfl rfl Try.func23 (by kernel_rfl) rfl #[.agg #[.int .i64 t271, .int .i64 t272, .slice Ao16 t273.length co16, .slice Ao17 t276.length co17]] rfl (by (try simp only [List.map_toArray, List.map_cons, List.map_nil]); first | done | rfl | (simp only [List.length_drop, List.length_take]; rfl)) ?_; (with_reducible refine (gramaryelaw11_few.calls k t271 t272 _ _ t273 _ _ t276 t279 t280 t281 t284 _ ?side1 ?side2 ?side3 ?side4 A5.out).mono ?_); (case side1 => refine (Kd.R_reads' (e := 3) (base := w.heap.size) (ok := fun k_ => True) (n := t273.length) (c := co16) ?_).2.2; exact (by (with_reducible repeat (first | apply Kd.R_alloc | apply Kd.R_drewN | apply Kd.R_drew)); exact (Kd.R_mono (Kd.R_far (p := ⟨gb270, 3, none⟩) (Kd.R_far (p := ⟨gb270, 2, none⟩) (Kd.R_far (p := ⟨gb270, 1, none⟩) (Kd.R_far (p := ⟨gb270, 0, none⟩) (Kd.R_types HO275.out BK270.out (by decide)) (fun _ hk => hk.2) (.int .i64 t271)) (fun _ hk => hk.2) (.int .i64 t272)) (fun _ hk => hk.2) (.slice Ao16 t273.length co16)) (fun _ hk => hk.2) (.slice Ao17 t276.length co17)) (fun _ h_ => h_.1)))); (case side2 => exact (Kd.R_reads' HO275.out).2.1); (case side3 => refine (Kd.S_reads' (e := 51) (base := w.heap.size) (ok := fun k_ => True) (n := t276.length) (c := co17) ?_).2.2; exact (by (with_reducible repeat (first | apply Kd.S_alloc | apply Kd.S_drewN | apply Kd.S_drew)); exact (Kd.S_mono (Kd.S_far (p := ⟨gb270, 3, none⟩) (Kd.S_far (p := ⟨gb270, 2, none⟩) (Kd.S_far (p := ⟨gb270, 1, none⟩) (Kd.S_far (p := ⟨gb270, 0, none⟩) (Kd.S_types HO278.out BK270.out (by decide)) (fun _ hk => hk.2) (.int .i64 t271)) (fun _ hk => hk.2) (.int .i64 t272)) (fun _ hk => hk.2) (.slice Ao16 t273.length co16)) (fun _ hk => hk.2) (.slice Ao17 t276.length co17)) (fun _ h_ => h_.1)))); (case side4 => exact (Kd.S_reads' HO278.out).2.1); rintro e w18 ⟨v282, v285, rfl, ho0, ho1, hb⟩; refine ⟨_, rfl, ?_⟩; have n0_ := Aside0.mk (Kd.R_elder' (by (with_reducible repeat (first | apply Kd.R_alloc | apply Kd.R_drewN | apply Kd.R_drew)); exact (Kd.R_mono (Kd.R_far (p := ⟨gb270, 3, none⟩) (Kd.R_far (p := ⟨gb270, 2, none⟩) (Kd.R_far (p := ⟨gb270, 1, none⟩) (Kd.R_far (p := ⟨gb270, 0, none⟩) (Kd.R_types HO275.out BK270.out (by decide)) (fun _ hk => hk.2) (.int .i64 t271)) (fun _ hk => hk.2) (.int .i64 t272)) (fun _ hk => hk.2) (.slice Ao16 t273.length co16)) (fun _ hk => hk.2) (.slice Ao17 t276.length co17)) (fun _ h_ => h_.1))) (Kd.R_base ho0) hb); have n1_ := Aside0.mk (Kd.S_elder' (by (with_reducible repeat (first | apply Kd.S_alloc | apply Kd.S_drewN | apply Kd.S_drew)); exact (Kd.S_mono (Kd.S_far (p := ⟨gb270, 3, none⟩) (Kd.S_far (p := ⟨gb270, 2, none⟩) (Kd.S_far (p := ⟨gb270, 1, none⟩) (Kd.S_far (p := ⟨gb270, 0, none⟩) (Kd.S_types HO278.out BK270.out (by decide)) (fun _ hk => hk.2) (.int .i64 t271)) (fun _ hk => hk.2) (.int .i64 t272)) (fun _ hk => hk.2) (.slice Ao16 t273.length co16)) (fun _ hk => hk.2) (.slice Ao17 t276.length co17)) (fun _ h_ => h_.1))) (Kd.S_base ho1) hb); have n2_ := Aside0.mk (Kd.R_lower (Kd.R_new' ho0 (Kd.R_lt (by (with_reducible repeat (first | apply Kd.R_alloc | apply Kd.R_drewN | apply Kd.R_drew)); exact (Kd.R_mono (Kd.R_far (p := ⟨gb270, 3, none⟩) (Kd.R_far (p := ⟨gb270, 2, none⟩) (Kd.R_far (p := ⟨gb270, 1, none⟩) (Kd.R_far (p := ⟨gb270, 0, none⟩) (Kd.R_types HO275.out BK270.out (by decide)) (fun _ hk => hk.2) (.int .i64 t271)) (fun _ hk => hk.2) (.int .i64 t272)) (fun _ hk => hk.2) (.slice Ao16 t273.length co16)) (fun _ hk => hk.2) (.slice Ao17 t276.length co17)) (fun _ h_ => h_.1))))) (below_size (by repeat (first | (with_reducible first | exact HB.out | apply below_alloc | apply pw_below_drewN | apply below_drew1 | refine below_set ?_ GE270.out) | exact HB.out)))); have n3_ := Aside0.mk (Kd.S_lower (Kd.S_new' ho1 (Kd.S_lt (by (with_reducible repeat (first | apply Kd.S_alloc | apply Kd.S_drewN | apply Kd.S_drew)); exact (Kd.S_mono (Kd.S_far (p := ⟨gb270, 3, none⟩) (Kd.S_far (p := ⟨gb270, 2, none⟩) (Kd.S_far (p := ⟨gb270, 1, none⟩) (Kd.S_far (p := ⟨gb270, 0, none⟩) (Kd.S_types HO278.out BK270.out (by decide)) (fun _ hk => hk.2) (.int .i64 t271)) (fun _ hk => hk.2) (.int .i64 t272)) (fun _ hk => hk.2) (.slice Ao16 t273.length co16)) (fun _ hk => hk.2) (.slice Ao17 t276.length co17)) (fun _ h_ => h_.1))))) (below_size (by repeat (first | (with_reducible first | exact HB.out | apply below_alloc | apply pw_below_drewN | apply below_drew1 | refine below_set ?_ GE270.out) | exact HB.out)))); have n4_ := Aside0.mk (blk_below (g := gb270) (o := .cells #[.int .i64 t271, .int .i64 t272, .slice Ao16 t273.length co16, .slice Ao17 t276.length co17] 25 (0, 0)) (by (with_reducible repeat (first | refine blk_drewN ?_ _ | refine blk_drew ?_ | refine blk_alloc ?_ _)); refine blk_put (cs := #[.int .i64 t271, .int .i64 t272, .slice Ao16 t273.length co16, .slice A0_3 l0_3.length c0_3]) ?_ 3 _ rfl; (with_reducible repeat (first | refine blk_drewN ?_ _ | refine blk_drew ?_ | refine blk_alloc ?_ _)); refine blk_put (cs := #[.int .i64 t271, .int .i64 t272, .slice A0_2 l0_2.length c0_2, .slice A0_3 l0_3.length c0_3]) ?_ 2 _ rfl; (with_reducible repeat (first | refine blk_drewN ?_ _ | refine blk_drew ?_ | refine blk_alloc ?_ _)); refine blk_put (cs := #[.int .i64 t271, .int .i64 a0_1, .slice A0_2 l0_2.length c0_2, .slice A0_3 l0_3.length c0_3]) ?_ 1 _ rfl; (with_reducible repeat (first | refine blk_drewN ?_ _ | refine blk_drew ?_ | refine blk_alloc ?_ _)); refine blk_put (cs := #[.int .i64 a0_0, .int .i64 a0_1, .slice A0_2 l0_2.length c0_2, .slice A0_3 l0_3.length c0_3]) ?_ 0 _ rfl; (with_reducible repeat (first | refine blk_drewN ?_ _ | refine blk_drew ?_ | refine blk_alloc ?_ _)); exact BK270.out) hb); have n5_ := Aside0.mk (below_step (by repeat (first | (with_reducible first | exact HB.out | apply below_alloc | apply pw_below_drewN | apply below_drew1 | refine below_set ?_ GE270.out) | exact HB.out)) hb); clear HO275; clear HO278; clear BK270; clear HB; have HO275 := n0_; have HO278 := n1_; have HO283 := n2_; have HO286 := n3_; have BK270 := n4_; have HB := n5_; clear n0_ n1_ n2_ n3_ n4_ n5_; (try clear hb); (try clear hb2); (try clear hk); (try clear hi); (try clear ho0); (try clear ho1); obtain ⟨Ao19, co19, eo19⟩ := Kd.R_slice HO283.out; subst eo19; obtain ⟨Ao20, co20, eo20⟩ := Kd.S_slice HO286.out; subst eo20) | ((with_reducible refine gate_callee (f := 29) rfl ?_); refine goesL_ (some 17) rfl rfl Try.func29 (by kernel_rfl) rfl #[.agg #[.int .i64 t279, .int .i64 t280, .slice Ao19 t281.length co19, .slice Ao20 t284.length co20]] rfl (by (try simp only [List.map_toArray, List.map_cons, List.map_nil]); first | done | rfl | (simp only [List.length_drop, List.length_take]; rfl)) ?_; (with_reducible refine (reach_Left.calls t279 t280 _ _ t281 _ _ t284 t287 t290 _ ?side1 ?side2 ?side3 ?side4 A6.out).mono ?_); (case side1 => repeat (first | exact (Kd.R_reads' HO283.out).2.2 | (with_reducible refine Kd.C_alloc ?_ _) | (with_reducible refine Kd.C_drewN ?_ _) | (with_reducible refine Kd.C_drew ?_))); (case side2 => exact (Kd.R_reads' HO283.out).2.1); (case side3 => repeat (first | exact (Kd.S_reads' HO286.out).2.2 | (with_reducible refine Kd.C_alloc ?_ _) | (with_reducible refine Kd.C_drewN ?_ _) | (with_reducible refine Kd.C_drew ?_))); (case side4 => exact (Kd.S_reads' HO286.out).2.1); rintro e w21 ⟨v288, rfl, ho0, hb⟩; refine ⟨_, rfl, ?_⟩; have n0_ := Aside0.mk (Kd.R_elder' (by (with_reducible repeat (first | apply Kd.R_alloc | apply Kd.R_drewN | apply Kd.R_drew)); exact HO275.out) (Kd.R_base ho0) hb); have n1_ := Aside0.mk (Kd.S_below (by (with_reducible repeat (first | apply Kd.S_alloc | apply Kd.S_drewN | apply Kd.S_drew)); exact HO278.out) hb); have n2_ := Aside0.mk (Kd.R_elder' (by (with_reducible repeat (first | apply Kd.R_alloc | apply Kd.R_drewN | apply Kd.R_drew)); exact HO283.out) (Kd.R_base ho0) hb); have n3_ := Aside0.mk (Kd.S_below (by (with_reducible repeat (first | apply Kd.S_alloc | apply Kd.S_drewN | apply Kd.S_drew)); exact HO286.out) hb); have n4_ := Aside0.mk (Kd.R_lower (Kd.R_new' (Kd.R_new' ho0 (Kd.R_lt (by (with_reducible repeat (first | apply Kd.R_alloc | apply Kd.R_drewN | apply Kd.R_drew)); exact HO275.out))) (Kd.R_lt (by (with_reducible repeat (first | apply Kd.R_alloc | apply Kd.R_drewN | apply Kd.R_drew)); exact HO283.out))) (below_size (by repeat (first | (with_reducible first | exact HB.out | apply below_alloc | apply pw_below_drewN | apply below_drew1 | refine below_set ?_ GE270.out) | exact HB.out)))); have n5_ := Aside0.mk (blk_below (g := gb270) (o := .cells #[.int .i64 t271, .int .i64 t272, .slice Ao16 t273.length co16, .slice Ao17 t276.length co17] 25 (0, 0)) (by (with_reducible repeat (first | refine blk_drewN ?_ _ | refine blk_drew ?_ | refine blk_alloc ?_ _)); exact BK270.out) hb); have n6_ := Aside0.mk (below_step (by repeat (first | (with_reducible first | exact HB.out | apply below_alloc | apply pw_below_drewN | apply below_drew1 | refine below_set ?_ GE270.out) | exact HB.out)) hb); clear HO275; clear HO278; clear HO283; clear HO286; clear BK270; clear HB; have HO275 := n0_; have HO278 := n1_; have HO283 := n2_; have HO286 := n3_; have HO289 := n4_; have BK270 := n5_; have HB := n6_; clear n0_ n1_ n2_ n3_ n4_ n5_ n6_; (try clear hb); (try clear hb2); (try clear hk); (try clear hi); (try clear ho0); have hcz22_0 : w21.cell? ⟨gb270, 0, none⟩ = some (.int .i64 t271) := (blk_cell BK270.out 0).trans rfl; have hcz22_1 : w21.cell? ⟨gb270, 1, none⟩ = some (.int .i64 t272) := (blk_cell BK270.out 1).trans rfl; have hcz22_2 : w21.cell? ⟨gb270, 2, none⟩ = some (.slice Ao16 t273.length co16) := (blk_cell BK270.out 2).trans rfl; have hcz22_3 : w21.cell? ⟨gb270, 3, none⟩ = some (.slice Ao17 t276.length co17) := (blk_cell BK270.out 3).trans rfl; have hfz22_0 := blk_frozen BK270.out 0; have hfz22_1 := blk_frozen BK270.out 1; have hfz22_2 := blk_frozen BK270.out 2; have hfz22_3 := blk_frozen BK270.out 3) | ((with_reducible refine gate_callee (f := 23) rfl ?_); refine goesL_ (some 21) rfl rfl Try.func23 (by kernel_rfl) rfl #[.agg #[.int .i64 t271, .int .i64 t272, .slice Ao16 t273.length co16, .slice Ao17 t276.length co17]] rfl (by (try simp only [List.map_toArray, List.map_cons, List.map_nil]); first | done | rfl | (simp only [List.length_drop, List.length_take]; rfl)) ?_; (with_reducible refine (gramaryelaw11_few.calls k t271 t272 _ _ t273 _ _ t276 t291 t292 t293 t296 _ ?side1 ?side2 ?side3 ?side4 A7.out).mono ?_); (case side1 => repeat (first | exact (Kd.R_reads' HO275.out).2.2 | (with_reducible refine Kd.C_alloc ?_ _) | (with_reducible refine Kd.C_drewN ?_ _) | (with_reducible refine Kd.C_drew ?_))); (case side2 => exact (Kd.R_reads' HO275.out).2.1); (case side3 => repeat (first | exact (Kd.S_reads' HO278.out).2.2 | (with_reducible refine Kd.C_alloc ?_ _) | (with_reducible refine Kd.C_drewN ?_ _) | (with_reducible refine Kd.C_drew ?_))); (case side4 => exact (Kd.S_reads' HO278.out).2.1); rintro e w23 ⟨v294, v297, rfl, ho0, ho1, hb⟩; refine ⟨_, rfl, ?_⟩; have n0_ := Aside0.mk (Kd.R_elder' (by (with_reducible repeat (first | apply Kd.R_alloc | apply Kd.R_drewN | apply Kd.R_drew)); exact HO275.out) (Kd.R_base ho0) hb); have n1_ := Aside0.mk (Kd.S_elder' (by (with_reducible repeat (first | apply Kd.S_alloc | apply Kd.S_drewN | apply Kd.S_drew)); exact HO278.out) (Kd.S_base ho1) hb); have n2_ := Aside0.mk (Kd.R_elder' (by (with_reducible repeat (first | apply Kd.R_alloc | apply Kd.R_drewN | apply Kd.R_drew)); exact HO283.out) (Kd.R_base ho0) hb); have n3_ := Aside0.mk (Kd.S_elder' (by (with_reducible repeat (first | apply Kd.S_alloc | apply Kd.S_drewN | apply Kd.S_drew)); exact HO286.out) (Kd.S_base ho1) hb); have n4_ := Aside0.mk (Kd.R_elder' (by (with_reducible repeat (first | apply Kd.R_alloc | apply Kd.R_drewN | apply Kd.R_drew)); exact HO289.out) (Kd.R_base ho0) hb); have n5_ := Aside0.mk (Kd.R_lower (Kd.R_new' (Kd.R_new' (Kd.R_new' ho0 (Kd.R_lt (by (with_reducible repeat (first | apply Kd.R_alloc | apply Kd.R_drewN | apply Kd.R_drew)); exact HO275.out))) (Kd.R_lt (by (with_reducible repeat (first | apply Kd.R_alloc | apply Kd.R_drewN | apply Kd.R_drew)); exact HO283.out))) (Kd.R_lt (by (with_reducible repeat (first | apply Kd.R_alloc | apply Kd.R_drewN | apply Kd.R_drew)); exact HO289.out))) (below_size (by repeat (first | (with_reducible first | exact HB.out | apply below_alloc | apply pw_below_drewN | apply below_drew1 | refine below_set ?_ GE270.out) | exact HB.out)))); have n6_ := Aside0.mk (Kd.S_lower (Kd.S_new' (Kd.S_new' ho1 (Kd.S_lt (by (with_reducible repeat (first | apply Kd.S_alloc | apply Kd.S_drewN | apply Kd.S_drew)); exact HO278.out))) (Kd.S_lt (by (with_reducible repeat (first | apply Kd.S_alloc | apply Kd.S_drewN | apply Kd.S_drew)); exact HO286.out))) (below_size (by repeat (first | (with_reducible first | exact HB.out | apply below_alloc | apply pw_below_drewN | apply below_drew1 | refine below_set ?_ GE270.out) | exact HB.out)))); have n7_ := Aside0.mk (blk_below (g := gb270) (o := .cells #[.int .i64 t271, .int .i64 t272, .slice Ao16 t273.length co16, .slice Ao17 t276.length co17] 25 (0, 0)) (by (with_reducible repeat (first | refine blk_drewN ?_ _ | refine blk_drew ?_ | refine blk_alloc ?_ _)); exact BK270.out) hb); have n8_ := Aside0.mk (below_step (by repeat (first | (with_reducible first | exact HB.out | apply below_alloc | apply pw_below_drewN | apply below_drew1 | refine below_set ?_ GE270.out) | exact HB.out)) hb); clear HO275; clear HO278; clear HO283; clear HO286; clear HO289; clear BK270; clear HB; have HO275 := n0_; have HO278 := n1_; have HO283 := n2_; have HO286 := n3_; have HO289 := n4_; have HO295 := n5_; have HO298 := n6_; have BK270 := n7_; have HB := n8_; clear n0_ n1_ n2_ n3_ n4_ n5_ n6_ n7_ n8_; (try clear hb); (try clear hb2); (try clear hk); (try clear hi); (try clear ho0); (try clear ho1); obtain ⟨Ao24, co24, eo24⟩ := Kd.R_slice HO295.out; subst eo24; obtain ⟨Ao25, co25, eo25⟩ := Kd.S_slice HO298.out; subst eo25) | ((with_reducible refine gate_callee (f := 30) rfl ?_); refine goesL_ (some 24) rfl rfl Try.func30 (by kernel_rfl) rfl #[.agg #[.int .i64 t291, .int .i64 t292, .slice Ao24 t293.length co24, .slice Ao25 t296.length co25], .int .i64 a1, .int .i64 a2] rfl (by (try simp only [List.map_toArray, List.map_cons, List.map_nil]); first | done | rfl | (simp only [List.length_drop, List.length_take]; rfl)) ?_; (with_reducible refine (reach_Begins.calls t291 t292 _ _ t293 _ _ t296 a1 a2 t299 _ ?side1 ?side2 ?side3 ?side4 A8.out).mono ?_); (case side1 => repeat (first | exact (Kd.R_reads' HO295.out).2.2 | (with_reducible refine Kd.C_alloc ?_ _) | (with_reducible refine Kd.C_drewN ?_ _) | (with_reducible refine Kd.C_drew ?_))); (case side2 => exact (Kd.R_reads' HO295.out).2.1); (case side3 => repeat (first | exact (Kd.S_reads' HO298.out).2.2 | (with_reducible refine Kd.C_alloc ?_ _) | (with_reducible refine Kd.C_drewN ?_ _) | (with_reducible refine Kd.C_drew ?_))); (case side4 => exact (Kd.S_reads' HO298.out).2.1); rintro e w26 ⟨rfl, hb⟩; refine ⟨_, rfl, ?_⟩; have n0_ := Aside0.mk (Kd.R_below (by (with_reducible repeat (first | apply Kd.R_alloc | apply Kd.R_drewN | apply Kd.R_drew)); exact HO275.out) hb); have n1_ := Aside0.mk (Kd.S_below (by (with_reducible repeat (first | apply Kd.S_alloc | apply Kd.S_drewN | apply Kd.S_drew)); exact HO278.out) hb); have n2_ := Aside0.mk (Kd.R_below (by (with_reducible repeat (first | apply Kd.R_alloc | apply Kd.R_drewN | apply Kd.R_drew)); exact HO283.out) hb); have n3_ := Aside0.mk (Kd.S_below (by (with_reducible repeat (first | apply Kd.S_alloc | apply Kd.S_drewN | apply Kd.S_drew)); exact HO286.out) hb); have n4_ := Aside0.mk (Kd.R_below (by (with_reducible repeat (first | apply Kd.R_alloc | apply Kd.R_drewN | apply Kd.R_drew)); exact HO289.out) hb); have n5_ := Aside0.mk (Kd.R_below (by (with_reducible repeat (first | apply Kd.R_alloc | apply Kd.R_drewN | apply Kd.R_drew)); exact HO295.out) hb); have n6_ := Aside0.mk (Kd.S_below (by (with_reducible repeat (first | apply Kd.S_alloc | apply Kd.S_drewN | apply Kd.S_drew)); exact HO298.out) hb); have n7_ := Aside0.mk (blk_below (g := gb270) (o := .cells #[.int .i64 t271, .int .i64 t272, .slice Ao16 t273.length co16, .slice Ao17 t276.length co17] 25 (0, 0)) (by (with_reducible repeat (first | refine blk_drewN ?_ _ | refine blk_drew ?_ | refine blk_alloc ?_ _)); exact BK270.out) hb); have n8_ := Aside0.mk (below_step (by repeat (first | (with_reducible first | exact HB.out | apply below_alloc | apply pw_below_drewN | apply below_drew1 | refine below_set ?_ GE270.out) | exact HB.out)) hb); clear HO275; clear HO278; clear HO283; clear HO286; clear HO289; clear HO295; clear HO298; clear BK270; clear HB; have HO275 := n0_; have HO278 := n1_; have HO283 := n2_; have HO286 := n3_; have HO289 := n4_; have HO295 := n5_; have HO298 := n6_; have BK270 := n7_; have HB := n8_; clear n0_ n1_ n2_ n3_ n4_ n5_ n6_ n7_ n8_; (try clear hb); (try clear hb2); (try clear hk); (try clear hi); have hcz27_0 : w26.cell? ⟨gb270, 0, none⟩ = some (.int .i64 t271) := (blk_cell BK270.out 0).trans rfl; have hcz27_1 : w26.cell? ⟨gb270, 1, none⟩ = some (.int .i64 t272) := (blk_cell BK270.out 1).trans rfl; have hcz27_2 : w26.cell? ⟨gb270, 2, none⟩ = some (.slice Ao16 t273.length co16) := (blk_cell BK270.out 2).trans rfl; have hcz27_3 : w26.cell? ⟨gb270, 3, none⟩ = some (.slice Ao17 t276.length co17) := (blk_cell BK270.out 3).trans rfl; have hfz27_0 := blk_frozen BK270.out 0; have hfz27_1 := blk_frozen BK270.out 1; have hfz27_2 := blk_frozen BK270.out 2; have hfz27_3 := blk_frozen BK270.out 3) | ((with_reducible refine gate_callee (f := 12) rfl ?_); refine goesL_ (some 26) rfl rfl Try.func12 (by kernel_rfl) rfl #[.agg #[.int .i64 t271, .int .i64 t272, .slice Ao16 t273.length co16, .slice Ao17 t276.length co17]] rfl (by (try simp only [List.map_toArray, List.map_cons, List.map_nil]); first | done | rfl | (simp only [List.length_drop, List.length_take]; rfl)) ?_; (with_reducible refine (gramaryeref09_May.calls k t271 t272 _ _ t273 _ _ t276 t300 _ ?side1 ?side2 ?side3 ?side4 A9.out).mono ?_); (case side1 => repeat (first | exact (Kd.R_reads' HO275.out).2.2 | (with_reducible refine Kd.C_alloc ?_ _) | (with_reducible refine Kd.C_drewN ?_ _) | (with_reducible refine Kd.C_drew ?_))); (case side2 => exact (Kd.R_reads' HO275.out).2.1); (case side3 => repeat (first | exact (Kd.S_reads' HO278.out).2.2 | (with_reducible refine Kd.C_alloc ?_ _) | (with_reducible refine Kd.C_drewN ?_ _) | (with_reducible refine Kd.C_drew ?_))); (case side4 => exact (Kd.S_reads' HO278.out).2.1); rintro e w28 ⟨rfl, hb⟩; refine ⟨_, rfl, ?_⟩; have n0_ := Aside0.mk (Kd.R_below (by (with_reducible repeat (first | apply Kd.R_alloc | apply Kd.R_drewN | apply Kd.R_drew)); exact HO275.out) hb); have n1_ := Aside0.mk (Kd.S_below (by (with_reducible repeat (first | apply Kd.S_alloc | apply Kd.S_drewN | apply Kd.S_drew)); exact HO278.out) hb); have n2_ := Aside0.mk (Kd.R_below (by (with_reducible repeat (first | apply Kd.R_alloc | apply Kd.R_drewN | apply Kd.R_drew)); exact HO283.out) hb); have n3_ := Aside0.mk (Kd.S_below (by (with_reducible repeat (first | apply Kd.S_alloc | apply Kd.S_drewN | apply Kd.S_drew)); exact HO286.out) hb); have n4_ := Aside0.mk (Kd.R_below (by (with_reducible repeat (first | apply Kd.R_alloc | apply Kd.R_drewN | apply Kd.R_drew)); exact HO289.out) hb); have n5_ := Aside0.mk (Kd.R_below (by (with_reducible repeat (first | apply Kd.R_alloc | apply Kd.R_drewN | apply Kd.R_drew)); exact HO295.out) hb); have n6_ := Aside0.mk (Kd.S_below (by (with_reducible repeat (first | apply Kd.S_alloc | apply Kd.S_drewN | apply Kd.S_drew)); exact HO298.out) hb); have n7_ := Aside0.mk (blk_below (g := gb270) (o := .cells #[.int .i64 t271, .int .i64 t272, .slice Ao16 t273.length co16, .slice Ao17 t276.length co17] 25 (0, 0)) (by (with_reducible repeat (first | refine blk_drewN ?_ _ | refine blk_drew ?_ | refine blk_alloc ?_ _)); exact BK270.out) hb); have n8_ := Aside0.mk (below_step (by repeat (first | (with_reducible first | exact HB.out | apply below_alloc | apply pw_below_drewN | apply below_drew1 | refine below_set ?_ GE270.out) | exact HB.out)) hb); clear HO275; clear HO278; clear HO283; clear HO286; clear HO289; clear HO295; clear HO298; clear BK270; clear HB; have HO275 := n0_; have HO278 := n1_; have HO283 := n2_; have HO286 := n3_; have HO289 := n4_; have HO295 := n5_; have HO298 := n6_; have BK270 := n7_; have HB := n8_; clear n0_ n1_ n2_ n3_ n4_ n5_ n6_ n7_ n8_; (try clear hb); (try clear hb2); (try clear hk); (try clear hi)))
    (try simp only [Act.put, List.setIfInBounds_toArray, List.set_cons_zero, List.set_cons_succ])
    go_cut [11] (fun v11 wc => ∃ (kq : Nat) (x11_10 : Bool), v11 = .bool x11_10 ∧ Aside0 (gramaryelaw11_ReachLeft.j0 kq a1 a2 t287 t290 t299 x11_10 t271 t272 t273 t276 = some r) ∧ Aside0 (kq ≤ k) ∧ Aside0 (Kd.R (Kd.int .i64) 3 wc w.heap.size (fun k_ => some k_ ≠ ((.slice Ao16 t273.length co16) : Value).ownBlock) v288 t287) ∧ Aside0 (Kd.R (Kd.int .i64) 3 wc w.heap.size (fun k_ => some k_ ≠ (v288 : Value).ownBlock) (.slice Ao16 t273.length co16) t273) ∧ Aside0 (Kd.S k51 51 wc w.heap.size (fun _ => True) (.slice Ao17 t276.length co17) t276) ∧ Aside0 (wc.heap[gb270]? = some (.cells #[.int .i64 t271, .int .i64 t272, (.slice Ao16 t273.length co16), (.slice Ao17 t276.length co17)] 25 (0, 0))) ∧ Aside0 (Below w.heap.size w wc))
    case first =>
      have H := HC11.out
      clear HC11
      by_cases c29 : a1 ≥ 0
      · rw [if_pos c29] at H
        have c29b0 : decide (0 ≤ a1) = true := decide_eq_true c29
        clear c29
        (first | rw [c29b0] | (simp only [i64_w, i32_w]; rw [c29b0]) | skip)
        by_cases c30 : a2 ≥ 0
        · rw [if_pos c30] at H
          have c30b0 : decide (0 ≤ a2) = true := decide_eq_true c30
          clear c30
          by_cases c31 : a1 < (t273.length : Int)
          · rw [if_pos c31] at H
            have c31b0 : decide (a1 < (t273.length : Int)) = true := decide_eq_true c31
            clear c31
            have H' := Aside0.mk H
            clear H
            have hcz32_0 : w28.cell? ⟨gb270, 0, none⟩ = some (.int .i64 t271) := (blk_cell BK270.out 0).trans rfl
            have hcz32_1 : w28.cell? ⟨gb270, 1, none⟩ = some (.int .i64 t272) := (blk_cell BK270.out 1).trans rfl
            have hcz32_2 : w28.cell? ⟨gb270, 2, none⟩ = some (.slice Ao16 t273.length co16) := (blk_cell BK270.out 2).trans rfl
            have hcz32_3 : w28.cell? ⟨gb270, 3, none⟩ = some (.slice Ao17 t276.length co17) := (blk_cell BK270.out 3).trans rfl
            have hfz32_0 := blk_frozen BK270.out 0
            have hfz32_1 := blk_frozen BK270.out 1
            have hfz32_2 := blk_frozen BK270.out 2
            have hfz32_3 := blk_frozen BK270.out 3
            go_wp2
            go_meet
            case rel => exact ⟨_, (decide (a2 < (t273.length : Int))), (by first | rfl | (simp; done) | (simp [*]; done)), H', ⟨by first | omega | exact Nat.le_refl _⟩, ⟨by (with_reducible repeat (first | apply Kd.R_alloc | apply Kd.R_drewN | apply Kd.R_drew)); exact Kd.R_mono HO289.out (fun _ hk => hk.1.1.2)⟩, ⟨by (with_reducible repeat (first | apply Kd.R_alloc | apply Kd.R_drewN | apply Kd.R_drew)); exact Kd.R_mono HO275.out (fun _ hk => hk.1.2)⟩, ⟨by (with_reducible repeat (first | apply Kd.S_alloc | apply Kd.S_drewN | apply Kd.S_drew)); exact Kd.S_mono HO278.out (fun _ hk => trivial)⟩, ⟨by (with_reducible repeat (first | refine blk_drewN ?_ _ | refine blk_drew ?_ | refine blk_alloc ?_ _)); exact BK270.out⟩, ⟨by repeat (first | (with_reducible first | exact HB.out | apply below_alloc | apply pw_below_drewN | apply below_drew1 | refine below_set ?_ GE270.out) | exact HB.out)⟩⟩
          · rw [if_neg c31] at H
            have c31b0 : decide (a1 < (t273.length : Int)) = false := decide_eq_false c31
            clear c31
            have H' := Aside0.mk H
            clear H
            have hcz33_0 : w28.cell? ⟨gb270, 0, none⟩ = some (.int .i64 t271) := (blk_cell BK270.out 0).trans rfl
            have hcz33_1 : w28.cell? ⟨gb270, 1, none⟩ = some (.int .i64 t272) := (blk_cell BK270.out 1).trans rfl
            have hcz33_2 : w28.cell? ⟨gb270, 2, none⟩ = some (.slice Ao16 t273.length co16) := (blk_cell BK270.out 2).trans rfl
            have hcz33_3 : w28.cell? ⟨gb270, 3, none⟩ = some (.slice Ao17 t276.length co17) := (blk_cell BK270.out 3).trans rfl
            have hfz33_0 := blk_frozen BK270.out 0
            have hfz33_1 := blk_frozen BK270.out 1
            have hfz33_2 := blk_frozen BK270.out 2
            have hfz33_3 := blk_frozen BK270.out 3
            go_wp2
            go_meet
            case rel => exact ⟨_, (false), (by first | rfl | (simp; done) | (simp [*]; done)), H', ⟨by first | omega | exact Nat.le_refl _⟩, ⟨by (with_reducible repeat (first | apply Kd.R_alloc | apply Kd.R_drewN | apply Kd.R_drew)); exact Kd.R_mono HO289.out (fun _ hk => hk.1.1.2)⟩, ⟨by (with_reducible repeat (first | apply Kd.R_alloc | apply Kd.R_drewN | apply Kd.R_drew)); exact Kd.R_mono HO275.out (fun _ hk => hk.1.2)⟩, ⟨by (with_reducible repeat (first | apply Kd.S_alloc | apply Kd.S_drewN | apply Kd.S_drew)); exact Kd.S_mono HO278.out (fun _ hk => trivial)⟩, ⟨by (with_reducible repeat (first | refine blk_drewN ?_ _ | refine blk_drew ?_ | refine blk_alloc ?_ _)); exact BK270.out⟩, ⟨by repeat (first | (with_reducible first | exact HB.out | apply below_alloc | apply pw_below_drewN | apply below_drew1 | refine below_set ?_ GE270.out) | exact HB.out)⟩⟩
        · rw [if_neg c30] at H
          have c30b0 : decide (0 ≤ a2) = false := decide_eq_false c30
          clear c30
          have H' := Aside0.mk H
          clear H
          go_wp2
          go_meet
          case rel => exact ⟨_, (false), (by first | rfl | (simp; done) | (simp [*]; done)), H', ⟨by first | omega | exact Nat.le_refl _⟩, ⟨by (with_reducible repeat (first | apply Kd.R_alloc | apply Kd.R_drewN | apply Kd.R_drew)); exact Kd.R_mono HO289.out (fun _ hk => hk.1.1.2)⟩, ⟨by (with_reducible repeat (first | apply Kd.R_alloc | apply Kd.R_drewN | apply Kd.R_drew)); exact Kd.R_mono HO275.out (fun _ hk => hk.1.2)⟩, ⟨by (with_reducible repeat (first | apply Kd.S_alloc | apply Kd.S_drewN | apply Kd.S_drew)); exact Kd.S_mono HO278.out (fun _ hk => trivial)⟩, ⟨by (with_reducible repeat (first | refine blk_drewN ?_ _ | refine blk_drew ?_ | refine blk_alloc ?_ _)); exact BK270.out⟩, ⟨by repeat (first | (with_reducible first | exact HB.out | apply below_alloc | apply pw_below_drewN | apply below_drew1 | refine below_set ?_ GE270.out) | exact HB.out)⟩⟩
      · rw [if_neg c29] at H
        have c29b0 : decide (0 ≤ a1) = false := decide_eq_false c29
        clear c29
        (first | rw [c29b0] | (simp only [i64_w, i32_w]; rw [c29b0]) | skip)
        have H' := Aside0.mk H
        clear H
        go_wp2
        go_meet
        case rel => exact ⟨_, (false), (by first | rfl | (simp; done) | (simp [*]; done)), H', ⟨by first | omega | exact Nat.le_refl _⟩, ⟨by (with_reducible repeat (first | apply Kd.R_alloc | apply Kd.R_drewN | apply Kd.R_drew)); exact Kd.R_mono HO289.out (fun _ hk => hk.1.1.2)⟩, ⟨by (with_reducible repeat (first | apply Kd.R_alloc | apply Kd.R_drewN | apply Kd.R_drew)); exact Kd.R_mono HO275.out (fun _ hk => hk.1.2)⟩, ⟨by (with_reducible repeat (first | apply Kd.S_alloc | apply Kd.S_drewN | apply Kd.S_drew)); exact Kd.S_mono HO278.out (fun _ hk => trivial)⟩, ⟨by (with_reducible repeat (first | refine blk_drewN ?_ _ | refine blk_drew ?_ | refine blk_alloc ?_ _)); exact BK270.out⟩, ⟨by repeat (first | (with_reducible first | exact HB.out | apply below_alloc | apply pw_below_drewN | apply below_drew1 | refine below_set ?_ GE270.out) | exact HB.out)⟩⟩
    case rest =>
      clear HC11
      try clear c1
      try clear c2
      try clear p2
      try clear c3
      try clear c7
      try clear c10
      try clear c10b0
      try clear c10b1
      try clear c12
      try clear c23
      try clear c29
      try clear c29b0
      try clear c30
      try clear c30b0
      try clear c31
      try clear c31b0
      try clear hcz13_0
      try clear hcz13_1
      try clear hcz13_2
      try clear hcz13_3
      try clear hcz15_0
      try clear hcz15_1
      try clear hcz15_2
      try clear hcz15_3
      try clear hcz22_0
      try clear hcz22_1
      try clear hcz22_2
      try clear hcz22_3
      try clear hcz27_0
      try clear hcz27_1
      try clear hcz27_2
      try clear hcz27_3
      try clear hcz32_0
      try clear hcz32_1
      try clear hcz32_2
      try clear hcz32_3
      try clear hcz33_0
      try clear hcz33_1
      try clear hcz33_2
      try clear hcz33_3
      try clear hfz13_0
      try clear hfz13_1
      try clear hfz13_2
      try clear hfz13_3
      try clear hfz15_0
      try clear hfz15_1
      try clear hfz15_2
      try clear hfz15_3
      try clear hfz22_0
      try clear hfz22_1
      try clear hfz22_2
      try clear hfz22_3
      try clear hfz27_0
      try clear hfz27_1
      try clear hfz27_2
      try clear hfz27_3
      try clear hfz32_0
      try clear hfz32_1
      try clear hfz32_2
      try clear hfz32_3
      try clear hfz33_0
      try clear hfz33_1
      try clear hfz33_2
      try clear hfz33_3
      obtain ⟨kq, x11_10, rfl, HA, HJ10, HO_7, HO_271002, HO_271003, BK270, HB⟩ := hcut
      cases kq with
      | zero => exact absurd HA.out (by simp [gramaryelaw11_ReachLeft.j0])
      | succ kj10 =>
        have H := HA.out
        clear HA
        simp only [gramaryelaw11_ReachLeft.j0] at H
        by_cases c34 : t290 = 0
        · rw [if_pos c34] at H
          have c34b0 : (t290 == 0) = true := beq_iff_eq.mpr c34
          have c34b1 : (t290 != 0) = false := bne_eq_false_iff_eq.mpr c34
          clear c34
          replace H := Option.bind_eq_some_iff.mp H
          obtain ⟨t302, A350, H⟩ := H
          replace H : ((gramaryebase_SameInts.f kj10 t287 t302).bind fun t305 => (if t305 = true then (if x11_10 = true then ((gramaryeref11_Begins.f kj10 t271 t272 t273 t276 a1 a2).bind fun t306 => (if (t299 == t306) = true then ((gramaryelaw11_works.f kj10).bind fun t307 => (some t307)) else (some false))) else (if (t299 == false) = true then ((gramaryelaw11_works.f kj10).bind fun t308 => (some t308)) else (some false))) else (some false))) = some r := H
          have A35 := Aside0.mk A350
          clear A350
          replace H := Option.bind_eq_some_iff.mp H
          obtain ⟨t305, A360, H⟩ := H
          replace H : (if t305 = true then (if x11_10 = true then ((gramaryeref11_Begins.f kj10 t271 t272 t273 t276 a1 a2).bind fun t306 => (if (t299 == t306) = true then ((gramaryelaw11_works.f kj10).bind fun t307 => (some t307)) else (some false))) else (if (t299 == false) = true then ((gramaryelaw11_works.f kj10).bind fun t308 => (some t308)) else (some false))) else (some false)) = some r := H
          have A36 := Aside0.mk A360
          clear A360
          by_cases c37 : t305 = true
          · subst c37
            have H1 : (if x11_10 = true then ((gramaryeref11_Begins.f kj10 t271 t272 t273 t276 a1 a2).bind fun t306 => (if (t299 == t306) = true then ((gramaryelaw11_works.f kj10).bind fun t307 => (some t307)) else (some false))) else (if (t299 == false) = true then ((gramaryelaw11_works.f kj10).bind fun t308 => (some t308)) else (some false))) = some r := by rw [if_pos rfl] at H; exact H
            clear H
            have H := H1
            clear H1
            by_cases c38 : x11_10 = true
            · subst c38
              have H1 : ((gramaryeref11_Begins.f kj10 t271 t272 t273 t276 a1 a2).bind fun t306 => (if (t299 == t306) = true then ((gramaryelaw11_works.f kj10).bind fun t307 => (some t307)) else (some false))) = some r := by rw [if_pos rfl] at H; exact H
              clear H
              have H := H1
              clear H1
              replace H := Option.bind_eq_some_iff.mp H
              obtain ⟨t306, A390, H⟩ := H
              replace H : (if (t299 == t306) = true then ((gramaryelaw11_works.f kj10).bind fun t307 => (some t307)) else (some false)) = some r := H
              have A39 := Aside0.mk A390
              clear A390
              by_cases c40 : (t299 == t306) = true
              · rw [if_pos c40] at H
                have c40b0 : (t299 == t306) = true := c40
                (try (have c40b1 : decide (t299 = t306) = true := by simpa using c40))
                (try (have c40b2 : (t299 == t306) = true := by simpa using c40))
                clear c40
                replace H := Option.bind_eq_some_iff.mp H
                obtain ⟨t307, A410, H⟩ := H
                replace H : (some t307) = some r := H
                have A41 := Aside0.mk A410
                clear A410
                obtain rfl := Option.some.inj H
                have hcz42_0 : wc.cell? ⟨gb270, 0, none⟩ = some (.int .i64 t271) := (blk_cell BK270.out 0).trans rfl
                have hcz42_1 : wc.cell? ⟨gb270, 1, none⟩ = some (.int .i64 t272) := (blk_cell BK270.out 1).trans rfl
                have hcz42_2 : wc.cell? ⟨gb270, 2, none⟩ = some (.slice Ao16 t273.length co16) := (blk_cell BK270.out 2).trans rfl
                have hcz42_3 : wc.cell? ⟨gb270, 3, none⟩ = some (.slice Ao17 t276.length co17) := (blk_cell BK270.out 3).trans rfl
                have hfz42_0 := blk_frozen BK270.out 0
                have hfz42_1 := blk_frozen BK270.out 1
                have hfz42_2 := blk_frozen BK270.out 2
                have hfz42_3 := blk_frozen BK270.out 3
                go_wp2_with (first | (go_at_call 31; (with_reducible refine (gramaryeref11_Left.calls kj10 t271 t272 _ _ t273 _ _ t276 t302 _ ?side1 ?side2 ?side3 ?side4 A35.out).mono ?_); (case side1 => repeat (first | exact (Kd.R_reads' HO_271002.out).2.2 | (with_reducible refine Kd.C_alloc ?_ _) | (with_reducible refine Kd.C_drewN ?_ _) | (with_reducible refine Kd.C_drew ?_))); (case side2 => exact (Kd.R_reads' HO_271002.out).2.1); (case side3 => repeat (first | exact (Kd.S_reads' HO_271003.out).2.2 | (with_reducible refine Kd.C_alloc ?_ _) | (with_reducible refine Kd.C_drewN ?_ _) | (with_reducible refine Kd.C_drew ?_))); (case side4 => exact (Kd.S_reads' HO_271003.out).2.1); rintro e w43 ⟨v303, rfl, ho0, hb⟩; have n0_ := Aside0.mk (Kd.R_elder' (by (with_reducible repeat (first | apply Kd.R_alloc | apply Kd.R_drewN | apply Kd.R_drew)); exact HO_7.out) (Kd.R_base ho0) hb); have n1_ := Aside0.mk (Kd.R_elder' (by (with_reducible repeat (first | apply Kd.R_alloc | apply Kd.R_drewN | apply Kd.R_drew)); exact HO_271002.out) (Kd.R_base ho0) hb); have n2_ := Aside0.mk (Kd.S_below (by (with_reducible repeat (first | apply Kd.S_alloc | apply Kd.S_drewN | apply Kd.S_drew)); exact HO_271003.out) hb); have n3_ := Aside0.mk (Kd.R_lower (Kd.R_new' (Kd.R_new' ho0 (Kd.R_lt (by (with_reducible repeat (first | apply Kd.R_alloc | apply Kd.R_drewN | apply Kd.R_drew)); exact HO_7.out))) (Kd.R_lt (by (with_reducible repeat (first | apply Kd.R_alloc | apply Kd.R_drewN | apply Kd.R_drew)); exact HO_271002.out))) (below_size (by repeat (first | (with_reducible first | exact HB.out | apply below_alloc | apply pw_below_drewN | apply below_drew1 | refine below_set ?_ GE270.out) | exact HB.out)))); have n4_ := Aside0.mk (blk_below (g := gb270) (o := .cells #[.int .i64 t271, .int .i64 t272, .slice Ao16 t273.length co16, .slice Ao17 t276.length co17] 25 (0, 0)) (by (with_reducible repeat (first | refine blk_drewN ?_ _ | refine blk_drew ?_ | refine blk_alloc ?_ _)); exact BK270.out) hb); have n5_ := Aside0.mk (below_step (by repeat (first | (with_reducible first | exact HB.out | apply below_alloc | apply pw_below_drewN | apply below_drew1 | refine below_set ?_ GE270.out) | exact HB.out)) hb); clear HO_7; clear HO_271002; clear HO_271003; clear BK270; clear HB; have HO_7 := n0_; have HO_271002 := n1_; have HO_271003 := n2_; have HO304 := n3_; have BK270 := n4_; have HB := n5_; clear n0_ n1_ n2_ n3_ n4_ n5_; (try clear hb); (try clear hb2); (try clear hk); (try clear hi); (try clear ho0); obtain ⟨Ao44, co44, eo44⟩ := Kd.R_slice HO_7.out; subst eo44; obtain ⟨Ao45, co45, eo45⟩ := Kd.R_slice HO304.out; subst eo45) | (go_at_call 14; (with_reducible refine (gramaryebase_SameInts.calls kj10 _ _ t287 _ _ t302 true _ ?side1 ?side2 ?side3 ?side4 A36.out).mono ?_); (case side1 => repeat (first | exact (Kd.R_reads' HO_7.out).2.2 | (with_reducible refine Kd.C_alloc ?_ _) | (with_reducible refine Kd.C_drewN ?_ _) | (with_reducible refine Kd.C_drew ?_))); (case side2 => exact (Kd.R_reads' HO_7.out).2.1); (case side3 => repeat (first | exact (Kd.R_reads' HO304.out).2.2 | (with_reducible refine Kd.C_alloc ?_ _) | (with_reducible refine Kd.C_drewN ?_ _) | (with_reducible refine Kd.C_drew ?_))); (case side4 => exact (Kd.R_reads' HO304.out).2.1); rintro e w' ⟨rfl, ⟨nd, rfl⟩⟩; have hcz46_0 : w43.cell? ⟨gb270, 0, none⟩ = some (.int .i64 t271) := (blk_cell BK270.out 0).trans rfl; have hcz46_1 : w43.cell? ⟨gb270, 1, none⟩ = some (.int .i64 t272) := (blk_cell BK270.out 1).trans rfl; have hcz46_2 : w43.cell? ⟨gb270, 2, none⟩ = some (.slice Ao16 t273.length co16) := (blk_cell BK270.out 2).trans rfl; have hcz46_3 : w43.cell? ⟨gb270, 3, none⟩ = some (.slice Ao17 t276.length co17) := (blk_cell BK270.out 3).trans rfl; have hfz46_0 := blk_frozen BK270.out 0; have hfz46_1 := blk_frozen BK270.out 1; have hfz46_2 := blk_frozen BK270.out 2; have hfz46_3 := blk_frozen BK270.out 3) | (go_at_call 25; (with_reducible refine (gramaryeref11_Begins.calls kj10 t271 t272 _ _ t273 _ _ t276 a1 a2 t306 _ ?side1 ?side2 ?side3 ?side4 A39.out).mono ?_); (case side1 => repeat (first | exact (Kd.R_reads' HO_271002.out).2.2 | (with_reducible refine Kd.C_alloc ?_ _) | (with_reducible refine Kd.C_drewN ?_ _) | (with_reducible refine Kd.C_drew ?_))); (case side2 => exact (Kd.R_reads' HO_271002.out).2.1); (case side3 => repeat (first | exact (Kd.S_reads' HO_271003.out).2.2 | (with_reducible refine Kd.C_alloc ?_ _) | (with_reducible refine Kd.C_drewN ?_ _) | (with_reducible refine Kd.C_drew ?_))); (case side4 => exact (Kd.S_reads' HO_271003.out).2.1); rintro e w47 ⟨rfl, hb⟩; have n0_ := Aside0.mk (Kd.R_below (by (with_reducible repeat (first | apply Kd.R_alloc | apply Kd.R_drewN | apply Kd.R_drew)); exact HO_7.out) hb); have n1_ := Aside0.mk (Kd.R_below (by (with_reducible repeat (first | apply Kd.R_alloc | apply Kd.R_drewN | apply Kd.R_drew)); exact HO_271002.out) hb); have n2_ := Aside0.mk (Kd.S_below (by (with_reducible repeat (first | apply Kd.S_alloc | apply Kd.S_drewN | apply Kd.S_drew)); exact HO_271003.out) hb); have n3_ := Aside0.mk (Kd.R_below (by (with_reducible repeat (first | apply Kd.R_alloc | apply Kd.R_drewN | apply Kd.R_drew)); exact HO304.out) hb); have n4_ := Aside0.mk (blk_below (g := gb270) (o := .cells #[.int .i64 t271, .int .i64 t272, .slice Ao16 t273.length co16, .slice Ao17 t276.length co17] 25 (0, 0)) (by (with_reducible repeat (first | refine blk_drewN ?_ _ | refine blk_drew ?_ | refine blk_alloc ?_ _)); exact BK270.out) hb); have n5_ := Aside0.mk (below_step (by repeat (first | (with_reducible first | exact HB.out | apply below_alloc | apply pw_below_drewN | apply below_drew1 | refine below_set ?_ GE270.out) | exact HB.out)) hb); clear HO_7; clear HO_271002; clear HO_271003; clear HO304; clear BK270; clear HB; have HO_7 := n0_; have HO_271002 := n1_; have HO_271003 := n2_; have HO304 := n3_; have BK270 := n4_; have HB := n5_; clear n0_ n1_ n2_ n3_ n4_ n5_; (try clear hb); (try clear hb2); (try clear hk); (try clear hi)) | (go_at_call 26; (with_reducible refine (gramaryelaw11_works.calls kj10  t307 _ A41.out).mono ?_); rintro e w48 ⟨rfl, hb⟩; have n0_ := Aside0.mk (Kd.R_below (by (with_reducible repeat (first | apply Kd.R_alloc | apply Kd.R_drewN | apply Kd.R_drew)); exact HO_7.out) hb); have n1_ := Aside0.mk (Kd.R_below (by (with_reducible repeat (first | apply Kd.R_alloc | apply Kd.R_drewN | apply Kd.R_drew)); exact HO_271002.out) hb); have n2_ := Aside0.mk (Kd.S_below (by (with_reducible repeat (first | apply Kd.S_alloc | apply Kd.S_drewN | apply Kd.S_drew)); exact HO_271003.out) hb); have n3_ := Aside0.mk (Kd.R_below (by (with_reducible repeat (first | apply Kd.R_alloc | apply Kd.R_drewN | apply Kd.R_drew)); exact HO304.out) hb); have n4_ := Aside0.mk (blk_below (g := gb270) (o := .cells #[.int .i64 t271, .int .i64 t272, .slice Ao16 t273.length co16, .slice Ao17 t276.length co17] 25 (0, 0)) (by (with_reducible repeat (first | refine blk_drewN ?_ _ | refine blk_drew ?_ | refine blk_alloc ?_ _)); exact BK270.out) hb); have n5_ := Aside0.mk (below_step (by repeat (first | (with_reducible first | exact HB.out | apply below_alloc | apply pw_below_drewN | apply below_drew1 | refine below_set ?_ GE270.out) | exact HB.out)) hb); clear HO_7; clear HO_271002; clear HO_271003; clear HO304; clear BK270; clear HB; have HO_7 := n0_; have HO_271002 := n1_; have HO_271003 := n2_; have HO304 := n3_; have BK270 := n4_; have HB := n5_; clear n0_ n1_ n2_ n3_ n4_ n5_; (try clear hb); (try clear hb2); (try clear hk); (try clear hi)))
                go_ret
                exact ⟨by first | rfl | (simp [errW_none, errW_some] <;> rfl) | (simp [*, errW_none, errW_some] <;> rfl), by repeat (first | (with_reducible first | exact HB.out | apply below_alloc | apply pw_below_drewN | apply below_drew1 | refine below_set ?_ GE270.out) | exact HB.out)⟩
              · rw [if_neg c40] at H
                have c40b0 : (t299 == t306) = false := by simpa using c40
                (try (have c40b1 : decide (t299 = t306) = false := by simpa using c40))
                (try (have c40b2 : (t299 == t306) = false := by simpa using c40))
                (try (have c40b3 : ¬ (t299 = t306) := by simpa using c40))
                clear c40
                obtain rfl := Option.some.inj H
                have hcz49_0 : wc.cell? ⟨gb270, 0, none⟩ = some (.int .i64 t271) := (blk_cell BK270.out 0).trans rfl
                have hcz49_1 : wc.cell? ⟨gb270, 1, none⟩ = some (.int .i64 t272) := (blk_cell BK270.out 1).trans rfl
                have hcz49_2 : wc.cell? ⟨gb270, 2, none⟩ = some (.slice Ao16 t273.length co16) := (blk_cell BK270.out 2).trans rfl
                have hcz49_3 : wc.cell? ⟨gb270, 3, none⟩ = some (.slice Ao17 t276.length co17) := (blk_cell BK270.out 3).trans rfl
                have hfz49_0 := blk_frozen BK270.out 0
                have hfz49_1 := blk_frozen BK270.out 1
                have hfz49_2 := blk_frozen BK270.out 2
                have hfz49_3 := blk_frozen BK270.out 3
                go_wp2_with (first | (go_at_call 31; (with_reducible refine (gramaryeref11_Left.calls kj10 t271 t272 _ _ t273 _ _ t276 t302 _ ?side1 ?side2 ?side3 ?side4 A35.out).mono ?_); (case side1 => repeat (first | exact (Kd.R_reads' HO_271002.out).2.2 | (with_reducible refine Kd.C_alloc ?_ _) | (with_reducible refine Kd.C_drewN ?_ _) | (with_reducible refine Kd.C_drew ?_))); (case side2 => exact (Kd.R_reads' HO_271002.out).2.1); (case side3 => repeat (first | exact (Kd.S_reads' HO_271003.out).2.2 | (with_reducible refine Kd.C_alloc ?_ _) | (with_reducible refine Kd.C_drewN ?_ _) | (with_reducible refine Kd.C_drew ?_))); (case side4 => exact (Kd.S_reads' HO_271003.out).2.1); rintro e w50 ⟨v303, rfl, ho0, hb⟩; have n0_ := Aside0.mk (Kd.R_elder' (by (with_reducible repeat (first | apply Kd.R_alloc | apply Kd.R_drewN | apply Kd.R_drew)); exact HO_7.out) (Kd.R_base ho0) hb); have n1_ := Aside0.mk (Kd.R_elder' (by (with_reducible repeat (first | apply Kd.R_alloc | apply Kd.R_drewN | apply Kd.R_drew)); exact HO_271002.out) (Kd.R_base ho0) hb); have n2_ := Aside0.mk (Kd.S_below (by (with_reducible repeat (first | apply Kd.S_alloc | apply Kd.S_drewN | apply Kd.S_drew)); exact HO_271003.out) hb); have n3_ := Aside0.mk (Kd.R_lower (Kd.R_new' (Kd.R_new' ho0 (Kd.R_lt (by (with_reducible repeat (first | apply Kd.R_alloc | apply Kd.R_drewN | apply Kd.R_drew)); exact HO_7.out))) (Kd.R_lt (by (with_reducible repeat (first | apply Kd.R_alloc | apply Kd.R_drewN | apply Kd.R_drew)); exact HO_271002.out))) (below_size (by repeat (first | (with_reducible first | exact HB.out | apply below_alloc | apply pw_below_drewN | apply below_drew1 | refine below_set ?_ GE270.out) | exact HB.out)))); have n4_ := Aside0.mk (blk_below (g := gb270) (o := .cells #[.int .i64 t271, .int .i64 t272, .slice Ao16 t273.length co16, .slice Ao17 t276.length co17] 25 (0, 0)) (by (with_reducible repeat (first | refine blk_drewN ?_ _ | refine blk_drew ?_ | refine blk_alloc ?_ _)); exact BK270.out) hb); have n5_ := Aside0.mk (below_step (by repeat (first | (with_reducible first | exact HB.out | apply below_alloc | apply pw_below_drewN | apply below_drew1 | refine below_set ?_ GE270.out) | exact HB.out)) hb); clear HO_7; clear HO_271002; clear HO_271003; clear BK270; clear HB; have HO_7 := n0_; have HO_271002 := n1_; have HO_271003 := n2_; have HO304 := n3_; have BK270 := n4_; have HB := n5_; clear n0_ n1_ n2_ n3_ n4_ n5_; (try clear hb); (try clear hb2); (try clear hk); (try clear hi); (try clear ho0); obtain ⟨Ao51, co51, eo51⟩ := Kd.R_slice HO_7.out; subst eo51; obtain ⟨Ao52, co52, eo52⟩ := Kd.R_slice HO304.out; subst eo52) | (go_at_call 14; (with_reducible refine (gramaryebase_SameInts.calls kj10 _ _ t287 _ _ t302 true _ ?side1 ?side2 ?side3 ?side4 A36.out).mono ?_); (case side1 => repeat (first | exact (Kd.R_reads' HO_7.out).2.2 | (with_reducible refine Kd.C_alloc ?_ _) | (with_reducible refine Kd.C_drewN ?_ _) | (with_reducible refine Kd.C_drew ?_))); (case side2 => exact (Kd.R_reads' HO_7.out).2.1); (case side3 => repeat (first | exact (Kd.R_reads' HO304.out).2.2 | (with_reducible refine Kd.C_alloc ?_ _) | (with_reducible refine Kd.C_drewN ?_ _) | (with_reducible refine Kd.C_drew ?_))); (case side4 => exact (Kd.R_reads' HO304.out).2.1); rintro e w' ⟨rfl, ⟨nd, rfl⟩⟩; have hcz53_0 : w50.cell? ⟨gb270, 0, none⟩ = some (.int .i64 t271) := (blk_cell BK270.out 0).trans rfl; have hcz53_1 : w50.cell? ⟨gb270, 1, none⟩ = some (.int .i64 t272) := (blk_cell BK270.out 1).trans rfl; have hcz53_2 : w50.cell? ⟨gb270, 2, none⟩ = some (.slice Ao16 t273.length co16) := (blk_cell BK270.out 2).trans rfl; have hcz53_3 : w50.cell? ⟨gb270, 3, none⟩ = some (.slice Ao17 t276.length co17) := (blk_cell BK270.out 3).trans rfl; have hfz53_0 := blk_frozen BK270.out 0; have hfz53_1 := blk_frozen BK270.out 1; have hfz53_2 := blk_frozen BK270.out 2; have hfz53_3 := blk_frozen BK270.out 3) | (go_at_call 25; (with_reducible refine (gramaryeref11_Begins.calls kj10 t271 t272 _ _ t273 _ _ t276 a1 a2 t306 _ ?side1 ?side2 ?side3 ?side4 A39.out).mono ?_); (case side1 => repeat (first | exact (Kd.R_reads' HO_271002.out).2.2 | (with_reducible refine Kd.C_alloc ?_ _) | (with_reducible refine Kd.C_drewN ?_ _) | (with_reducible refine Kd.C_drew ?_))); (case side2 => exact (Kd.R_reads' HO_271002.out).2.1); (case side3 => repeat (first | exact (Kd.S_reads' HO_271003.out).2.2 | (with_reducible refine Kd.C_alloc ?_ _) | (with_reducible refine Kd.C_drewN ?_ _) | (with_reducible refine Kd.C_drew ?_))); (case side4 => exact (Kd.S_reads' HO_271003.out).2.1); rintro e w54 ⟨rfl, hb⟩; have n0_ := Aside0.mk (Kd.R_below (by (with_reducible repeat (first | apply Kd.R_alloc | apply Kd.R_drewN | apply Kd.R_drew)); exact HO_7.out) hb); have n1_ := Aside0.mk (Kd.R_below (by (with_reducible repeat (first | apply Kd.R_alloc | apply Kd.R_drewN | apply Kd.R_drew)); exact HO_271002.out) hb); have n2_ := Aside0.mk (Kd.S_below (by (with_reducible repeat (first | apply Kd.S_alloc | apply Kd.S_drewN | apply Kd.S_drew)); exact HO_271003.out) hb); have n3_ := Aside0.mk (Kd.R_below (by (with_reducible repeat (first | apply Kd.R_alloc | apply Kd.R_drewN | apply Kd.R_drew)); exact HO304.out) hb); have n4_ := Aside0.mk (blk_below (g := gb270) (o := .cells #[.int .i64 t271, .int .i64 t272, .slice Ao16 t273.length co16, .slice Ao17 t276.length co17] 25 (0, 0)) (by (with_reducible repeat (first | refine blk_drewN ?_ _ | refine blk_drew ?_ | refine blk_alloc ?_ _)); exact BK270.out) hb); have n5_ := Aside0.mk (below_step (by repeat (first | (with_reducible first | exact HB.out | apply below_alloc | apply pw_below_drewN | apply below_drew1 | refine below_set ?_ GE270.out) | exact HB.out)) hb); clear HO_7; clear HO_271002; clear HO_271003; clear HO304; clear BK270; clear HB; have HO_7 := n0_; have HO_271002 := n1_; have HO_271003 := n2_; have HO304 := n3_; have BK270 := n4_; have HB := n5_; clear n0_ n1_ n2_ n3_ n4_ n5_; (try clear hb); (try clear hb2); (try clear hk); (try clear hi)))
                go_ret
                exact ⟨by first | rfl | (simp [errW_none, errW_some] <;> rfl) | (simp [*, errW_none, errW_some] <;> rfl), by repeat (first | (with_reducible first | exact HB.out | apply below_alloc | apply pw_below_drewN | apply below_drew1 | refine below_set ?_ GE270.out) | exact HB.out)⟩
            · replace c38 := Bool.eq_false_iff.mpr c38
              subst c38
              have H1 : (if (t299 == false) = true then ((gramaryelaw11_works.f kj10).bind fun t308 => (some t308)) else (some false)) = some r := by rw [if_neg (show ¬ (false = true) by decide)] at H; exact H
              clear H
              have H := H1
              clear H1
              by_cases c55 : (t299 == false) = true
              · rw [if_pos c55] at H
                have c55b0 : (t299 == false) = true := c55
                (try (have c55b1 : decide (t299 = false) = true := by simpa using c55))
                (try (have c55b2 : (t299 == false) = true := by simpa using c55))
                clear c55
                replace H := Option.bind_eq_some_iff.mp H
                obtain ⟨t308, A560, H⟩ := H
                replace H : (some t308) = some r := H
                have A56 := Aside0.mk A560
                clear A560
                obtain rfl := Option.some.inj H
                have hcz57_0 : wc.cell? ⟨gb270, 0, none⟩ = some (.int .i64 t271) := (blk_cell BK270.out 0).trans rfl
                have hcz57_1 : wc.cell? ⟨gb270, 1, none⟩ = some (.int .i64 t272) := (blk_cell BK270.out 1).trans rfl
                have hcz57_2 : wc.cell? ⟨gb270, 2, none⟩ = some (.slice Ao16 t273.length co16) := (blk_cell BK270.out 2).trans rfl
                have hcz57_3 : wc.cell? ⟨gb270, 3, none⟩ = some (.slice Ao17 t276.length co17) := (blk_cell BK270.out 3).trans rfl
                have hfz57_0 := blk_frozen BK270.out 0
                have hfz57_1 := blk_frozen BK270.out 1
                have hfz57_2 := blk_frozen BK270.out 2
                have hfz57_3 := blk_frozen BK270.out 3
                go_wp2_with (first | (go_at_call 31; (with_reducible refine (gramaryeref11_Left.calls kj10 t271 t272 _ _ t273 _ _ t276 t302 _ ?side1 ?side2 ?side3 ?side4 A35.out).mono ?_); (case side1 => repeat (first | exact (Kd.R_reads' HO_271002.out).2.2 | (with_reducible refine Kd.C_alloc ?_ _) | (with_reducible refine Kd.C_drewN ?_ _) | (with_reducible refine Kd.C_drew ?_))); (case side2 => exact (Kd.R_reads' HO_271002.out).2.1); (case side3 => repeat (first | exact (Kd.S_reads' HO_271003.out).2.2 | (with_reducible refine Kd.C_alloc ?_ _) | (with_reducible refine Kd.C_drewN ?_ _) | (with_reducible refine Kd.C_drew ?_))); (case side4 => exact (Kd.S_reads' HO_271003.out).2.1); rintro e w58 ⟨v303, rfl, ho0, hb⟩; have n0_ := Aside0.mk (Kd.R_elder' (by (with_reducible repeat (first | apply Kd.R_alloc | apply Kd.R_drewN | apply Kd.R_drew)); exact HO_7.out) (Kd.R_base ho0) hb); have n1_ := Aside0.mk (Kd.R_elder' (by (with_reducible repeat (first | apply Kd.R_alloc | apply Kd.R_drewN | apply Kd.R_drew)); exact HO_271002.out) (Kd.R_base ho0) hb); have n2_ := Aside0.mk (Kd.S_below (by (with_reducible repeat (first | apply Kd.S_alloc | apply Kd.S_drewN | apply Kd.S_drew)); exact HO_271003.out) hb); have n3_ := Aside0.mk (Kd.R_lower (Kd.R_new' (Kd.R_new' ho0 (Kd.R_lt (by (with_reducible repeat (first | apply Kd.R_alloc | apply Kd.R_drewN | apply Kd.R_drew)); exact HO_7.out))) (Kd.R_lt (by (with_reducible repeat (first | apply Kd.R_alloc | apply Kd.R_drewN | apply Kd.R_drew)); exact HO_271002.out))) (below_size (by repeat (first | (with_reducible first | exact HB.out | apply below_alloc | apply pw_below_drewN | apply below_drew1 | refine below_set ?_ GE270.out) | exact HB.out)))); have n4_ := Aside0.mk (blk_below (g := gb270) (o := .cells #[.int .i64 t271, .int .i64 t272, .slice Ao16 t273.length co16, .slice Ao17 t276.length co17] 25 (0, 0)) (by (with_reducible repeat (first | refine blk_drewN ?_ _ | refine blk_drew ?_ | refine blk_alloc ?_ _)); exact BK270.out) hb); have n5_ := Aside0.mk (below_step (by repeat (first | (with_reducible first | exact HB.out | apply below_alloc | apply pw_below_drewN | apply below_drew1 | refine below_set ?_ GE270.out) | exact HB.out)) hb); clear HO_7; clear HO_271002; clear HO_271003; clear BK270; clear HB; have HO_7 := n0_; have HO_271002 := n1_; have HO_271003 := n2_; have HO304 := n3_; have BK270 := n4_; have HB := n5_; clear n0_ n1_ n2_ n3_ n4_ n5_; (try clear hb); (try clear hb2); (try clear hk); (try clear hi); (try clear ho0); obtain ⟨Ao59, co59, eo59⟩ := Kd.R_slice HO_7.out; subst eo59; obtain ⟨Ao60, co60, eo60⟩ := Kd.R_slice HO304.out; subst eo60) | (go_at_call 14; (with_reducible refine (gramaryebase_SameInts.calls kj10 _ _ t287 _ _ t302 true _ ?side1 ?side2 ?side3 ?side4 A36.out).mono ?_); (case side1 => repeat (first | exact (Kd.R_reads' HO_7.out).2.2 | (with_reducible refine Kd.C_alloc ?_ _) | (with_reducible refine Kd.C_drewN ?_ _) | (with_reducible refine Kd.C_drew ?_))); (case side2 => exact (Kd.R_reads' HO_7.out).2.1); (case side3 => repeat (first | exact (Kd.R_reads' HO304.out).2.2 | (with_reducible refine Kd.C_alloc ?_ _) | (with_reducible refine Kd.C_drewN ?_ _) | (with_reducible refine Kd.C_drew ?_))); (case side4 => exact (Kd.R_reads' HO304.out).2.1); rintro e w' ⟨rfl, ⟨nd, rfl⟩⟩) | (go_at_call 26; (with_reducible refine (gramaryelaw11_works.calls kj10  t308 _ A56.out).mono ?_); rintro e w61 ⟨rfl, hb⟩; have n0_ := Aside0.mk (Kd.R_below (by (with_reducible repeat (first | apply Kd.R_alloc | apply Kd.R_drewN | apply Kd.R_drew)); exact HO_7.out) hb); have n1_ := Aside0.mk (Kd.R_below (by (with_reducible repeat (first | apply Kd.R_alloc | apply Kd.R_drewN | apply Kd.R_drew)); exact HO_271002.out) hb); have n2_ := Aside0.mk (Kd.S_below (by (with_reducible repeat (first | apply Kd.S_alloc | apply Kd.S_drewN | apply Kd.S_drew)); exact HO_271003.out) hb); have n3_ := Aside0.mk (Kd.R_below (by (with_reducible repeat (first | apply Kd.R_alloc | apply Kd.R_drewN | apply Kd.R_drew)); exact HO304.out) hb); have n4_ := Aside0.mk (blk_below (g := gb270) (o := .cells #[.int .i64 t271, .int .i64 t272, .slice Ao16 t273.length co16, .slice Ao17 t276.length co17] 25 (0, 0)) (by (with_reducible repeat (first | refine blk_drewN ?_ _ | refine blk_drew ?_ | refine blk_alloc ?_ _)); exact BK270.out) hb); have n5_ := Aside0.mk (below_step (by repeat (first | (with_reducible first | exact HB.out | apply below_alloc | apply pw_below_drewN | apply below_drew1 | refine below_set ?_ GE270.out) | exact HB.out)) hb); clear HO_7; clear HO_271002; clear HO_271003; clear HO304; clear BK270; clear HB; have HO_7 := n0_; have HO_271002 := n1_; have HO_271003 := n2_; have HO304 := n3_; have BK270 := n4_; have HB := n5_; clear n0_ n1_ n2_ n3_ n4_ n5_; (try clear hb); (try clear hb2); (try clear hk); (try clear hi)))
                go_ret
                exact ⟨by first | rfl | (simp [errW_none, errW_some] <;> rfl) | (simp [*, errW_none, errW_some] <;> rfl), by repeat (first | (with_reducible first | exact HB.out | apply below_alloc | apply pw_below_drewN | apply below_drew1 | refine below_set ?_ GE270.out) | exact HB.out)⟩
              · rw [if_neg c55] at H
                have c55b0 : (t299 == false) = false := by simpa using c55
                (try (have c55b1 : decide (t299 = false) = false := by simpa using c55))
                (try (have c55b2 : (t299 == false) = false := by simpa using c55))
                (try (have c55b3 : ¬ (t299 = false) := by simpa using c55))
                clear c55
                obtain rfl := Option.some.inj H
                have hcz62_0 : wc.cell? ⟨gb270, 0, none⟩ = some (.int .i64 t271) := (blk_cell BK270.out 0).trans rfl
                have hcz62_1 : wc.cell? ⟨gb270, 1, none⟩ = some (.int .i64 t272) := (blk_cell BK270.out 1).trans rfl
                have hcz62_2 : wc.cell? ⟨gb270, 2, none⟩ = some (.slice Ao16 t273.length co16) := (blk_cell BK270.out 2).trans rfl
                have hcz62_3 : wc.cell? ⟨gb270, 3, none⟩ = some (.slice Ao17 t276.length co17) := (blk_cell BK270.out 3).trans rfl
                have hfz62_0 := blk_frozen BK270.out 0
                have hfz62_1 := blk_frozen BK270.out 1
                have hfz62_2 := blk_frozen BK270.out 2
                have hfz62_3 := blk_frozen BK270.out 3
                go_wp2_with (first | (go_at_call 31; (with_reducible refine (gramaryeref11_Left.calls kj10 t271 t272 _ _ t273 _ _ t276 t302 _ ?side1 ?side2 ?side3 ?side4 A35.out).mono ?_); (case side1 => repeat (first | exact (Kd.R_reads' HO_271002.out).2.2 | (with_reducible refine Kd.C_alloc ?_ _) | (with_reducible refine Kd.C_drewN ?_ _) | (with_reducible refine Kd.C_drew ?_))); (case side2 => exact (Kd.R_reads' HO_271002.out).2.1); (case side3 => repeat (first | exact (Kd.S_reads' HO_271003.out).2.2 | (with_reducible refine Kd.C_alloc ?_ _) | (with_reducible refine Kd.C_drewN ?_ _) | (with_reducible refine Kd.C_drew ?_))); (case side4 => exact (Kd.S_reads' HO_271003.out).2.1); rintro e w63 ⟨v303, rfl, ho0, hb⟩; have n0_ := Aside0.mk (Kd.R_elder' (by (with_reducible repeat (first | apply Kd.R_alloc | apply Kd.R_drewN | apply Kd.R_drew)); exact HO_7.out) (Kd.R_base ho0) hb); have n1_ := Aside0.mk (Kd.R_elder' (by (with_reducible repeat (first | apply Kd.R_alloc | apply Kd.R_drewN | apply Kd.R_drew)); exact HO_271002.out) (Kd.R_base ho0) hb); have n2_ := Aside0.mk (Kd.S_below (by (with_reducible repeat (first | apply Kd.S_alloc | apply Kd.S_drewN | apply Kd.S_drew)); exact HO_271003.out) hb); have n3_ := Aside0.mk (Kd.R_lower (Kd.R_new' (Kd.R_new' ho0 (Kd.R_lt (by (with_reducible repeat (first | apply Kd.R_alloc | apply Kd.R_drewN | apply Kd.R_drew)); exact HO_7.out))) (Kd.R_lt (by (with_reducible repeat (first | apply Kd.R_alloc | apply Kd.R_drewN | apply Kd.R_drew)); exact HO_271002.out))) (below_size (by repeat (first | (with_reducible first | exact HB.out | apply below_alloc | apply pw_below_drewN | apply below_drew1 | refine below_set ?_ GE270.out) | exact HB.out)))); have n4_ := Aside0.mk (blk_below (g := gb270) (o := .cells #[.int .i64 t271, .int .i64 t272, .slice Ao16 t273.length co16, .slice Ao17 t276.length co17] 25 (0, 0)) (by (with_reducible repeat (first | refine blk_drewN ?_ _ | refine blk_drew ?_ | refine blk_alloc ?_ _)); exact BK270.out) hb); have n5_ := Aside0.mk (below_step (by repeat (first | (with_reducible first | exact HB.out | apply below_alloc | apply pw_below_drewN | apply below_drew1 | refine below_set ?_ GE270.out) | exact HB.out)) hb); clear HO_7; clear HO_271002; clear HO_271003; clear BK270; clear HB; have HO_7 := n0_; have HO_271002 := n1_; have HO_271003 := n2_; have HO304 := n3_; have BK270 := n4_; have HB := n5_; clear n0_ n1_ n2_ n3_ n4_ n5_; (try clear hb); (try clear hb2); (try clear hk); (try clear hi); (try clear ho0); obtain ⟨Ao64, co64, eo64⟩ := Kd.R_slice HO_7.out; subst eo64; obtain ⟨Ao65, co65, eo65⟩ := Kd.R_slice HO304.out; subst eo65) | (go_at_call 14; (with_reducible refine (gramaryebase_SameInts.calls kj10 _ _ t287 _ _ t302 true _ ?side1 ?side2 ?side3 ?side4 A36.out).mono ?_); (case side1 => repeat (first | exact (Kd.R_reads' HO_7.out).2.2 | (with_reducible refine Kd.C_alloc ?_ _) | (with_reducible refine Kd.C_drewN ?_ _) | (with_reducible refine Kd.C_drew ?_))); (case side2 => exact (Kd.R_reads' HO_7.out).2.1); (case side3 => repeat (first | exact (Kd.R_reads' HO304.out).2.2 | (with_reducible refine Kd.C_alloc ?_ _) | (with_reducible refine Kd.C_drewN ?_ _) | (with_reducible refine Kd.C_drew ?_))); (case side4 => exact (Kd.R_reads' HO304.out).2.1); rintro e w' ⟨rfl, ⟨nd, rfl⟩⟩))
                go_ret
                exact ⟨by first | rfl | (simp [errW_none, errW_some] <;> rfl) | (simp [*, errW_none, errW_some] <;> rfl), by repeat (first | (with_reducible first | exact HB.out | apply below_alloc | apply pw_below_drewN | apply below_drew1 | refine below_set ?_ GE270.out) | exact HB.out)⟩
          · replace c37 := Bool.eq_false_iff.mpr c37
            subst c37
            have H1 : (some false) = some r := by rw [if_neg (show ¬ (false = true) by decide)] at H; exact H
            clear H
            have H := H1
            clear H1
            obtain rfl := Option.some.inj H
            have hcz66_0 : wc.cell? ⟨gb270, 0, none⟩ = some (.int .i64 t271) := (blk_cell BK270.out 0).trans rfl
            have hcz66_1 : wc.cell? ⟨gb270, 1, none⟩ = some (.int .i64 t272) := (blk_cell BK270.out 1).trans rfl
            have hcz66_2 : wc.cell? ⟨gb270, 2, none⟩ = some (.slice Ao16 t273.length co16) := (blk_cell BK270.out 2).trans rfl
            have hcz66_3 : wc.cell? ⟨gb270, 3, none⟩ = some (.slice Ao17 t276.length co17) := (blk_cell BK270.out 3).trans rfl
            have hfz66_0 := blk_frozen BK270.out 0
            have hfz66_1 := blk_frozen BK270.out 1
            have hfz66_2 := blk_frozen BK270.out 2
            have hfz66_3 := blk_frozen BK270.out 3
            go_wp2_with (first | (go_at_call 31; (with_reducible refine (gramaryeref11_Left.calls kj10 t271 t272 _ _ t273 _ _ t276 t302 _ ?side1 ?side2 ?side3 ?side4 A35.out).mono ?_); (case side1 => repeat (first | exact (Kd.R_reads' HO_271002.out).2.2 | (with_reducible refine Kd.C_alloc ?_ _) | (with_reducible refine Kd.C_drewN ?_ _) | (with_reducible refine Kd.C_drew ?_))); (case side2 => exact (Kd.R_reads' HO_271002.out).2.1); (case side3 => repeat (first | exact (Kd.S_reads' HO_271003.out).2.2 | (with_reducible refine Kd.C_alloc ?_ _) | (with_reducible refine Kd.C_drewN ?_ _) | (with_reducible refine Kd.C_drew ?_))); (case side4 => exact (Kd.S_reads' HO_271003.out).2.1); rintro e w67 ⟨v303, rfl, ho0, hb⟩; have n0_ := Aside0.mk (Kd.R_elder' (by (with_reducible repeat (first | apply Kd.R_alloc | apply Kd.R_drewN | apply Kd.R_drew)); exact HO_7.out) (Kd.R_base ho0) hb); have n1_ := Aside0.mk (Kd.R_elder' (by (with_reducible repeat (first | apply Kd.R_alloc | apply Kd.R_drewN | apply Kd.R_drew)); exact HO_271002.out) (Kd.R_base ho0) hb); have n2_ := Aside0.mk (Kd.S_below (by (with_reducible repeat (first | apply Kd.S_alloc | apply Kd.S_drewN | apply Kd.S_drew)); exact HO_271003.out) hb); have n3_ := Aside0.mk (Kd.R_lower (Kd.R_new' (Kd.R_new' ho0 (Kd.R_lt (by (with_reducible repeat (first | apply Kd.R_alloc | apply Kd.R_drewN | apply Kd.R_drew)); exact HO_7.out))) (Kd.R_lt (by (with_reducible repeat (first | apply Kd.R_alloc | apply Kd.R_drewN | apply Kd.R_drew)); exact HO_271002.out))) (below_size (by repeat (first | (with_reducible first | exact HB.out | apply below_alloc | apply pw_below_drewN | apply below_drew1 | refine below_set ?_ GE270.out) | exact HB.out)))); have n4_ := Aside0.mk (blk_below (g := gb270) (o := .cells #[.int .i64 t271, .int .i64 t272, .slice Ao16 t273.length co16, .slice Ao17 t276.length co17] 25 (0, 0)) (by (with_reducible repeat (first | refine blk_drewN ?_ _ | refine blk_drew ?_ | refine blk_alloc ?_ _)); exact BK270.out) hb); have n5_ := Aside0.mk (below_step (by repeat (first | (with_reducible first | exact HB.out | apply below_alloc | apply pw_below_drewN | apply below_drew1 | refine below_set ?_ GE270.out) | exact HB.out)) hb); clear HO_7; clear HO_271002; clear HO_271003; clear BK270; clear HB; have HO_7 := n0_; have HO_271002 := n1_; have HO_271003 := n2_; have HO304 := n3_; have BK270 := n4_; have HB := n5_; clear n0_ n1_ n2_ n3_ n4_ n5_; (try clear hb); (try clear hb2); (try clear hk); (try clear hi); (try clear ho0); obtain ⟨Ao68, co68, eo68⟩ := Kd.R_slice HO_7.out; subst eo68; obtain ⟨Ao69, co69, eo69⟩ := Kd.R_slice HO304.out; subst eo69) | (go_at_call 14; (with_reducible refine (gramaryebase_SameInts.calls kj10 _ _ t287 _ _ t302 false _ ?side1 ?side2 ?side3 ?side4 A36.out).mono ?_); (case side1 => repeat (first | exact (Kd.R_reads' HO_7.out).2.2 | (with_reducible refine Kd.C_alloc ?_ _) | (with_reducible refine Kd.C_drewN ?_ _) | (with_reducible refine Kd.C_drew ?_))); (case side2 => exact (Kd.R_reads' HO_7.out).2.1); (case side3 => repeat (first | exact (Kd.R_reads' HO304.out).2.2 | (with_reducible refine Kd.C_alloc ?_ _) | (with_reducible refine Kd.C_drewN ?_ _) | (with_reducible refine Kd.C_drew ?_))); (case side4 => exact (Kd.R_reads' HO304.out).2.1); rintro e w' ⟨rfl, ⟨nd, rfl⟩⟩))
            go_ret
            exact ⟨by first | rfl | (simp [errW_none, errW_some] <;> rfl) | (simp [*, errW_none, errW_some] <;> rfl), by repeat (first | (with_reducible first | exact HB.out | apply below_alloc | apply pw_below_drewN | apply below_drew1 | refine below_set ?_ GE270.out) | exact HB.out)⟩
        · rw [if_neg c34] at H
          have c34b0 : (t290 == 0) = false := beq_eq_false_iff_ne.mpr c34
          have c34b1 : (t290 != 0) = true := bne_iff_ne.mpr c34
          obtain rfl := Option.some.inj H
          go_wp2
          go_ret
          exact ⟨by first | rfl | (simp [errW_none, errW_some] <;> rfl) | (simp [*, errW_none, errW_some] <;> rfl), by repeat (first | (with_reducible first | exact HB.out | apply below_alloc | apply pw_below_drewN | apply below_drew1 | refine below_set ?_ GE270.out) | exact HB.out)⟩
  · rw [if_neg c10] at H
    have c10b0 : (t300 == 0) = false := beq_eq_false_iff_ne.mpr c10
    have c10b1 : (t300 != 0) = true := bne_iff_ne.mpr c10
    by_cases c70 : t290 = t300
    · rw [if_pos c70] at H
      have c70b0 : (t290 == t300) = true := beq_iff_eq.mpr c70
      have c70b1 : (t290 != t300) = false := bne_eq_false_iff_eq.mpr c70
      clear c70
      by_cases c71 : (t287.length : Int) = 0
      · rw [if_pos c71] at H
        have c71b0 : ((t287.length : Int) == 0) = true := beq_iff_eq.mpr c71
        have c71b1 : ((t287.length : Int) != 0) = false := bne_eq_false_iff_eq.mpr c71
        clear c71
        by_cases c72 : t299 = true
        · subst c72
          have H1 : (some false) = some r := by rw [if_pos rfl] at H; exact H
          clear H
          have H := H1
          clear H1
          obtain rfl := Option.some.inj H
          go_enter Try.func7, Try.ntmps7
          go_wp2_with (first | ((with_reducible refine gate_dst (N := 3) rfl ?_); (try (refine gate_guard (by rfl) ?_; dsimp only)); refine box_event ?hg (N := 3) ?hd (cs := #[.int .i64 a0_0, .int .i64 a0_1, .slice A0_2 l0_2.length c0_2, .slice A0_3 l0_3.length c0_3]) (t := 25) ?hr ?_; (case hd => rfl); (case hg => rfl); (case hr => first | (go_simp; done) | (go_simp; rfl)); intro gb270 hg w73 hbox hb; have n0_ := Aside0.mk (below_step (by repeat (first | (with_reducible first | exact HB.out | apply below_alloc | apply pw_below_drewN | apply below_drew1) | exact HB.out)) hb); have n1_ := Aside0.mk (hbox); have n2_ := Aside0.mk ((by rw [hg]; exact (below_size (by repeat (first | (with_reducible first | exact HB.out | apply below_alloc | apply pw_below_drewN | apply below_drew1) | exact HB.out))) : w.heap.size ≤ gb270)); have n3_ := Aside0.mk ((by rw [hg]; exact (below_size (by repeat (first | (with_reducible first | exact HB.out | apply below_alloc | apply pw_below_drewN | apply below_drew1) | exact HB.out))) : w.heap.size ≤ gb270)); clear HB; have HB := n0_; have BK270 := n1_; have GW270 := n2_; have GE270 := n3_; clear n0_ n1_ n2_ n3_; clear hb hbox hg; have hcz74_0 : w73.cell? ⟨gb270, 0, none⟩ = some (.int .i64 a0_0) := (blk_cell BK270.out 0).trans rfl; have hcz74_1 : w73.cell? ⟨gb270, 1, none⟩ = some (.int .i64 a0_1) := (blk_cell BK270.out 1).trans rfl; have hcz74_2 : w73.cell? ⟨gb270, 2, none⟩ = some (.slice A0_2 l0_2.length c0_2) := (blk_cell BK270.out 2).trans rfl; have hcz74_3 : w73.cell? ⟨gb270, 3, none⟩ = some (.slice A0_3 l0_3.length c0_3) := (blk_cell BK270.out 3).trans rfl; have hfz74_0 := blk_frozen BK270.out 0; have hfz74_1 := blk_frozen BK270.out 1; have hfz74_2 := blk_frozen BK270.out 2; have hfz74_3 := blk_frozen BK270.out 3) | ((with_reducible refine gate_callee (f := 23) rfl ?_); refine goesL_ (some 13) rfl rfl Try.func23 (by kernel_rfl) rfl #[.agg #[.int .i64 a0_0, .int .i64 a0_1, .slice A0_2 l0_2.length c0_2, .slice A0_3 l0_3.length c0_3]] rfl (by (try simp only [List.map_toArray, List.map_cons, List.map_nil]); first | done | rfl | (simp only [List.length_drop, List.length_take]; rfl)) ?_; (with_reducible refine (gramaryelaw11_few.calls k a0_0 a0_1 _ _ l0_2 _ _ l0_3 t271 t272 t273 t276 _ ?side1 ?side2 ?side3 ?side4 A4.out).mono ?_); (case side1 => repeat (first | exact (Kd.C_below HR0_2.out HB.out) | (with_reducible refine Kd.C_alloc ?_ _) | (with_reducible refine Kd.C_drewN ?_ _) | (with_reducible refine Kd.C_drew ?_))); (case side2 => exact HC0_2.out); (case side3 => repeat (first | exact (Kd.C_below HR0_3.out HB.out) | (with_reducible refine Kd.C_alloc ?_ _) | (with_reducible refine Kd.C_drewN ?_ _) | (with_reducible refine Kd.C_drew ?_))); (case side4 => exact HC0_3.out); rintro e w75 ⟨v274, v277, rfl, ho0, ho1, hb⟩; refine ⟨_, rfl, ?_⟩; have n0_ := Aside0.mk (Kd.R_lower ho0 (below_size (by repeat (first | (with_reducible first | exact HB.out | apply below_alloc | apply pw_below_drewN | apply below_drew1 | refine below_set ?_ GE270.out) | exact HB.out)))); have n1_ := Aside0.mk (Kd.S_lower ho1 (below_size (by repeat (first | (with_reducible first | exact HB.out | apply below_alloc | apply pw_below_drewN | apply below_drew1 | refine below_set ?_ GE270.out) | exact HB.out)))); have n2_ := Aside0.mk (blk_below (g := gb270) (o := .cells #[.int .i64 a0_0, .int .i64 a0_1, .slice A0_2 l0_2.length c0_2, .slice A0_3 l0_3.length c0_3] 25 (0, 0)) (by (with_reducible repeat (first | refine blk_drewN ?_ _ | refine blk_drew ?_ | refine blk_alloc ?_ _)); exact BK270.out) hb); have n3_ := Aside0.mk (below_step (by repeat (first | (with_reducible first | exact HB.out | apply below_alloc | apply pw_below_drewN | apply below_drew1 | refine below_set ?_ GE270.out) | exact HB.out)) hb); clear BK270; clear HB; have HO275 := n0_; have HO278 := n1_; have BK270 := n2_; have HB := n3_; clear n0_ n1_ n2_ n3_; (try clear hb); (try clear hb2); (try clear hk); (try clear hi); (try clear ho0); (try clear ho1); have hcz76_0 : w75.cell? ⟨gb270, 0, none⟩ = some (.int .i64 a0_0) := (blk_cell BK270.out 0).trans rfl; have hcz76_1 : w75.cell? ⟨gb270, 1, none⟩ = some (.int .i64 a0_1) := (blk_cell BK270.out 1).trans rfl; have hcz76_2 : w75.cell? ⟨gb270, 2, none⟩ = some (.slice A0_2 l0_2.length c0_2) := (blk_cell BK270.out 2).trans rfl; have hcz76_3 : w75.cell? ⟨gb270, 3, none⟩ = some (.slice A0_3 l0_3.length c0_3) := (blk_cell BK270.out 3).trans rfl; have hfz76_0 := blk_frozen BK270.out 0; have hfz76_1 := blk_frozen BK270.out 1; have hfz76_2 := blk_frozen BK270.out 2; have hfz76_3 := blk_frozen BK270.out 3; obtain ⟨Ao77, co77, eo77⟩ := Kd.R_slice HO275.out; subst eo77; obtain ⟨Ao78, co78, eo78⟩ := Kd.S_slice HO278.out; subst eo78) | ((with_reducible refine gate_callee (f := 23) rfl ?_); refine goesL_ (some 16) rfl rfl Try.func23 (by kernel_rfl) rfl #[.agg #[.int .i64 t271, .int .i64 t272, .slice Ao77 t273.length co77, .slice Ao78 t276.length co78]] rfl (by (try simp only [List.map_toArray, List.map_cons, List.map_nil]); first | done | rfl | (simp only [List.length_drop, List.length_take]; rfl)) ?_; (with_reducible refine (gramaryelaw11_few.calls k t271 t272 _ _ t273 _ _ t276 t279 t280 t281 t284 _ ?side1 ?side2 ?side3 ?side4 A5.out).mono ?_); (case side1 => refine (Kd.R_reads' (e := 3) (base := w.heap.size) (ok := fun k_ => True) (n := t273.length) (c := co77) ?_).2.2; exact (by (with_reducible repeat (first | apply Kd.R_alloc | apply Kd.R_drewN | apply Kd.R_drew)); exact (Kd.R_mono (Kd.R_far (p := ⟨gb270, 3, none⟩) (Kd.R_far (p := ⟨gb270, 2, none⟩) (Kd.R_far (p := ⟨gb270, 1, none⟩) (Kd.R_far (p := ⟨gb270, 0, none⟩) (Kd.R_types HO275.out BK270.out (by decide)) (fun _ hk => hk.2) (.int .i64 t271)) (fun _ hk => hk.2) (.int .i64 t272)) (fun _ hk => hk.2) (.slice Ao77 t273.length co77)) (fun _ hk => hk.2) (.slice Ao78 t276.length co78)) (fun _ h_ => h_.1)))); (case side2 => exact (Kd.R_reads' HO275.out).2.1); (case side3 => refine (Kd.S_reads' (e := 51) (base := w.heap.size) (ok := fun k_ => True) (n := t276.length) (c := co78) ?_).2.2; exact (by (with_reducible repeat (first | apply Kd.S_alloc | apply Kd.S_drewN | apply Kd.S_drew)); exact (Kd.S_mono (Kd.S_far (p := ⟨gb270, 3, none⟩) (Kd.S_far (p := ⟨gb270, 2, none⟩) (Kd.S_far (p := ⟨gb270, 1, none⟩) (Kd.S_far (p := ⟨gb270, 0, none⟩) (Kd.S_types HO278.out BK270.out (by decide)) (fun _ hk => hk.2) (.int .i64 t271)) (fun _ hk => hk.2) (.int .i64 t272)) (fun _ hk => hk.2) (.slice Ao77 t273.length co77)) (fun _ hk => hk.2) (.slice Ao78 t276.length co78)) (fun _ h_ => h_.1)))); (case side4 => exact (Kd.S_reads' HO278.out).2.1); rintro e w79 ⟨v282, v285, rfl, ho0, ho1, hb⟩; refine ⟨_, rfl, ?_⟩; have n0_ := Aside0.mk (Kd.R_elder' (by (with_reducible repeat (first | apply Kd.R_alloc | apply Kd.R_drewN | apply Kd.R_drew)); exact (Kd.R_mono (Kd.R_far (p := ⟨gb270, 3, none⟩) (Kd.R_far (p := ⟨gb270, 2, none⟩) (Kd.R_far (p := ⟨gb270, 1, none⟩) (Kd.R_far (p := ⟨gb270, 0, none⟩) (Kd.R_types HO275.out BK270.out (by decide)) (fun _ hk => hk.2) (.int .i64 t271)) (fun _ hk => hk.2) (.int .i64 t272)) (fun _ hk => hk.2) (.slice Ao77 t273.length co77)) (fun _ hk => hk.2) (.slice Ao78 t276.length co78)) (fun _ h_ => h_.1))) (Kd.R_base ho0) hb); have n1_ := Aside0.mk (Kd.S_elder' (by (with_reducible repeat (first | apply Kd.S_alloc | apply Kd.S_drewN | apply Kd.S_drew)); exact (Kd.S_mono (Kd.S_far (p := ⟨gb270, 3, none⟩) (Kd.S_far (p := ⟨gb270, 2, none⟩) (Kd.S_far (p := ⟨gb270, 1, none⟩) (Kd.S_far (p := ⟨gb270, 0, none⟩) (Kd.S_types HO278.out BK270.out (by decide)) (fun _ hk => hk.2) (.int .i64 t271)) (fun _ hk => hk.2) (.int .i64 t272)) (fun _ hk => hk.2) (.slice Ao77 t273.length co77)) (fun _ hk => hk.2) (.slice Ao78 t276.length co78)) (fun _ h_ => h_.1))) (Kd.S_base ho1) hb); have n2_ := Aside0.mk (Kd.R_lower (Kd.R_new' ho0 (Kd.R_lt (by (with_reducible repeat (first | apply Kd.R_alloc | apply Kd.R_drewN | apply Kd.R_drew)); exact (Kd.R_mono (Kd.R_far (p := ⟨gb270, 3, none⟩) (Kd.R_far (p := ⟨gb270, 2, none⟩) (Kd.R_far (p := ⟨gb270, 1, none⟩) (Kd.R_far (p := ⟨gb270, 0, none⟩) (Kd.R_types HO275.out BK270.out (by decide)) (fun _ hk => hk.2) (.int .i64 t271)) (fun _ hk => hk.2) (.int .i64 t272)) (fun _ hk => hk.2) (.slice Ao77 t273.length co77)) (fun _ hk => hk.2) (.slice Ao78 t276.length co78)) (fun _ h_ => h_.1))))) (below_size (by repeat (first | (with_reducible first | exact HB.out | apply below_alloc | apply pw_below_drewN | apply below_drew1 | refine below_set ?_ GE270.out) | exact HB.out)))); have n3_ := Aside0.mk (Kd.S_lower (Kd.S_new' ho1 (Kd.S_lt (by (with_reducible repeat (first | apply Kd.S_alloc | apply Kd.S_drewN | apply Kd.S_drew)); exact (Kd.S_mono (Kd.S_far (p := ⟨gb270, 3, none⟩) (Kd.S_far (p := ⟨gb270, 2, none⟩) (Kd.S_far (p := ⟨gb270, 1, none⟩) (Kd.S_far (p := ⟨gb270, 0, none⟩) (Kd.S_types HO278.out BK270.out (by decide)) (fun _ hk => hk.2) (.int .i64 t271)) (fun _ hk => hk.2) (.int .i64 t272)) (fun _ hk => hk.2) (.slice Ao77 t273.length co77)) (fun _ hk => hk.2) (.slice Ao78 t276.length co78)) (fun _ h_ => h_.1))))) (below_size (by repeat (first | (with_reducible first | exact HB.out | apply below_alloc | apply pw_below_drewN | apply below_drew1 | refine below_set ?_ GE270.out) | exact HB.out)))); have n4_ := Aside0.mk (blk_below (g := gb270) (o := .cells #[.int .i64 t271, .int .i64 t272, .slice Ao77 t273.length co77, .slice Ao78 t276.length co78] 25 (0, 0)) (by (with_reducible repeat (first | refine blk_drewN ?_ _ | refine blk_drew ?_ | refine blk_alloc ?_ _)); refine blk_put (cs := #[.int .i64 t271, .int .i64 t272, .slice Ao77 t273.length co77, .slice A0_3 l0_3.length c0_3]) ?_ 3 _ rfl; (with_reducible repeat (first | refine blk_drewN ?_ _ | refine blk_drew ?_ | refine blk_alloc ?_ _)); refine blk_put (cs := #[.int .i64 t271, .int .i64 t272, .slice A0_2 l0_2.length c0_2, .slice A0_3 l0_3.length c0_3]) ?_ 2 _ rfl; (with_reducible repeat (first | refine blk_drewN ?_ _ | refine blk_drew ?_ | refine blk_alloc ?_ _)); refine blk_put (cs := #[.int .i64 t271, .int .i64 a0_1, .slice A0_2 l0_2.length c0_2, .slice A0_3 l0_3.length c0_3]) ?_ 1 _ rfl; (with_reducible repeat (first | refine blk_drewN ?_ _ | refine blk_drew ?_ | refine blk_alloc ?_ _)); refine blk_put (cs := #[.int .i64 a0_0, .int .i64 a0_1, .slice A0_2 l0_2.length c0_2, .slice A0_3 l0_3.length c0_3]) ?_ 0 _ rfl; (with_reducible repeat (first | refine blk_drewN ?_ _ | refine blk_drew ?_ | refine blk_alloc ?_ _)); exact BK270.out) hb); have n5_ := Aside0.mk (below_step (by repeat (first | (with_reducible first | exact HB.out | apply below_alloc | apply pw_below_drewN | apply below_drew1 | refine below_set ?_ GE270.out) | exact HB.out)) hb); clear HO275; clear HO278; clear BK270; clear HB; have HO275 := n0_; have HO278 := n1_; have HO283 := n2_; have HO286 := n3_; have BK270 := n4_; have HB := n5_; clear n0_ n1_ n2_ n3_ n4_ n5_; (try clear hb); (try clear hb2); (try clear hk); (try clear hi); (try clear ho0); (try clear ho1); obtain ⟨Ao80, co80, eo80⟩ := Kd.R_slice HO283.out; subst eo80; obtain ⟨Ao81, co81, eo81⟩ := Kd.S_slice HO286.out; subst eo81) | ((with_reducible refine gate_callee (f := 29) rfl ?_); refine goesL_ (some 17) rfl rfl Try.func29 (by kernel_rfl) rfl #[.agg #[.int .i64 t279, .int .i64 t280, .slice Ao80 t281.length co80, .slice Ao81 t284.length co81]] rfl (by (try simp only [List.map_toArray, List.map_cons, List.map_nil]); first | done | rfl | (simp only [List.length_drop, List.length_take]; rfl)) ?_; (with_reducible refine (reach_Left.calls t279 t280 _ _ t281 _ _ t284 t287 t290 _ ?side1 ?side2 ?side3 ?side4 A6.out).mono ?_); (case side1 => repeat (first | exact (Kd.R_reads' HO283.out).2.2 | (with_reducible refine Kd.C_alloc ?_ _) | (with_reducible refine Kd.C_drewN ?_ _) | (with_reducible refine Kd.C_drew ?_))); (case side2 => exact (Kd.R_reads' HO283.out).2.1); (case side3 => repeat (first | exact (Kd.S_reads' HO286.out).2.2 | (with_reducible refine Kd.C_alloc ?_ _) | (with_reducible refine Kd.C_drewN ?_ _) | (with_reducible refine Kd.C_drew ?_))); (case side4 => exact (Kd.S_reads' HO286.out).2.1); rintro e w82 ⟨v288, rfl, ho0, hb⟩; refine ⟨_, rfl, ?_⟩; have n0_ := Aside0.mk (Kd.R_elder' (by (with_reducible repeat (first | apply Kd.R_alloc | apply Kd.R_drewN | apply Kd.R_drew)); exact HO275.out) (Kd.R_base ho0) hb); have n1_ := Aside0.mk (Kd.S_below (by (with_reducible repeat (first | apply Kd.S_alloc | apply Kd.S_drewN | apply Kd.S_drew)); exact HO278.out) hb); have n2_ := Aside0.mk (Kd.R_elder' (by (with_reducible repeat (first | apply Kd.R_alloc | apply Kd.R_drewN | apply Kd.R_drew)); exact HO283.out) (Kd.R_base ho0) hb); have n3_ := Aside0.mk (Kd.S_below (by (with_reducible repeat (first | apply Kd.S_alloc | apply Kd.S_drewN | apply Kd.S_drew)); exact HO286.out) hb); have n4_ := Aside0.mk (Kd.R_lower (Kd.R_new' (Kd.R_new' ho0 (Kd.R_lt (by (with_reducible repeat (first | apply Kd.R_alloc | apply Kd.R_drewN | apply Kd.R_drew)); exact HO275.out))) (Kd.R_lt (by (with_reducible repeat (first | apply Kd.R_alloc | apply Kd.R_drewN | apply Kd.R_drew)); exact HO283.out))) (below_size (by repeat (first | (with_reducible first | exact HB.out | apply below_alloc | apply pw_below_drewN | apply below_drew1 | refine below_set ?_ GE270.out) | exact HB.out)))); have n5_ := Aside0.mk (blk_below (g := gb270) (o := .cells #[.int .i64 t271, .int .i64 t272, .slice Ao77 t273.length co77, .slice Ao78 t276.length co78] 25 (0, 0)) (by (with_reducible repeat (first | refine blk_drewN ?_ _ | refine blk_drew ?_ | refine blk_alloc ?_ _)); exact BK270.out) hb); have n6_ := Aside0.mk (below_step (by repeat (first | (with_reducible first | exact HB.out | apply below_alloc | apply pw_below_drewN | apply below_drew1 | refine below_set ?_ GE270.out) | exact HB.out)) hb); clear HO275; clear HO278; clear HO283; clear HO286; clear BK270; clear HB; have HO275 := n0_; have HO278 := n1_; have HO283 := n2_; have HO286 := n3_; have HO289 := n4_; have BK270 := n5_; have HB := n6_; clear n0_ n1_ n2_ n3_ n4_ n5_ n6_; (try clear hb); (try clear hb2); (try clear hk); (try clear hi); (try clear ho0); have hcz83_0 : w82.cell? ⟨gb270, 0, none⟩ = some (.int .i64 t271) := (blk_cell BK270.out 0).trans rfl; have hcz83_1 : w82.cell? ⟨gb270, 1, none⟩ = some (.int .i64 t272) := (blk_cell BK270.out 1).trans rfl; have hcz83_2 : w82.cell? ⟨gb270, 2, none⟩ = some (.slice Ao77 t273.length co77) := (blk_cell BK270.out 2).trans rfl; have hcz83_3 : w82.cell? ⟨gb270, 3, none⟩ = some (.slice Ao78 t276.length co78) := (blk_cell BK270.out 3).trans rfl; have hfz83_0 := blk_frozen BK270.out 0; have hfz83_1 := blk_frozen BK270.out 1; have hfz83_2 := blk_frozen BK270.out 2; have hfz83_3 := blk_frozen BK270.out 3) | ((with_reducible refine gate_callee (f := 23) rfl ?_); refine goesL_ (some 21) rfl rfl Try.func23 (by kernel_rfl) rfl #[.agg #[.int .i64 t271, .int .i64 t272, .slice Ao77 t273.length co77, .slice Ao78 t276.length co78]] rfl (by (try simp only [List.map_toArray, List.map_cons, List.map_nil]); first | done | rfl | (simp only [List.length_drop, List.length_take]; rfl)) ?_; (with_reducible refine (gramaryelaw11_few.calls k t271 t272 _ _ t273 _ _ t276 t291 t292 t293 t296 _ ?side1 ?side2 ?side3 ?side4 A7.out).mono ?_); (case side1 => repeat (first | exact (Kd.R_reads' HO275.out).2.2 | (with_reducible refine Kd.C_alloc ?_ _) | (with_reducible refine Kd.C_drewN ?_ _) | (with_reducible refine Kd.C_drew ?_))); (case side2 => exact (Kd.R_reads' HO275.out).2.1); (case side3 => repeat (first | exact (Kd.S_reads' HO278.out).2.2 | (with_reducible refine Kd.C_alloc ?_ _) | (with_reducible refine Kd.C_drewN ?_ _) | (with_reducible refine Kd.C_drew ?_))); (case side4 => exact (Kd.S_reads' HO278.out).2.1); rintro e w84 ⟨v294, v297, rfl, ho0, ho1, hb⟩; refine ⟨_, rfl, ?_⟩; have n0_ := Aside0.mk (Kd.R_elder' (by (with_reducible repeat (first | apply Kd.R_alloc | apply Kd.R_drewN | apply Kd.R_drew)); exact HO275.out) (Kd.R_base ho0) hb); have n1_ := Aside0.mk (Kd.S_elder' (by (with_reducible repeat (first | apply Kd.S_alloc | apply Kd.S_drewN | apply Kd.S_drew)); exact HO278.out) (Kd.S_base ho1) hb); have n2_ := Aside0.mk (Kd.R_elder' (by (with_reducible repeat (first | apply Kd.R_alloc | apply Kd.R_drewN | apply Kd.R_drew)); exact HO283.out) (Kd.R_base ho0) hb); have n3_ := Aside0.mk (Kd.S_elder' (by (with_reducible repeat (first | apply Kd.S_alloc | apply Kd.S_drewN | apply Kd.S_drew)); exact HO286.out) (Kd.S_base ho1) hb); have n4_ := Aside0.mk (Kd.R_elder' (by (with_reducible repeat (first | apply Kd.R_alloc | apply Kd.R_drewN | apply Kd.R_drew)); exact HO289.out) (Kd.R_base ho0) hb); have n5_ := Aside0.mk (Kd.R_lower (Kd.R_new' (Kd.R_new' (Kd.R_new' ho0 (Kd.R_lt (by (with_reducible repeat (first | apply Kd.R_alloc | apply Kd.R_drewN | apply Kd.R_drew)); exact HO275.out))) (Kd.R_lt (by (with_reducible repeat (first | apply Kd.R_alloc | apply Kd.R_drewN | apply Kd.R_drew)); exact HO283.out))) (Kd.R_lt (by (with_reducible repeat (first | apply Kd.R_alloc | apply Kd.R_drewN | apply Kd.R_drew)); exact HO289.out))) (below_size (by repeat (first | (with_reducible first | exact HB.out | apply below_alloc | apply pw_below_drewN | apply below_drew1 | refine below_set ?_ GE270.out) | exact HB.out)))); have n6_ := Aside0.mk (Kd.S_lower (Kd.S_new' (Kd.S_new' ho1 (Kd.S_lt (by (with_reducible repeat (first | apply Kd.S_alloc | apply Kd.S_drewN | apply Kd.S_drew)); exact HO278.out))) (Kd.S_lt (by (with_reducible repeat (first | apply Kd.S_alloc | apply Kd.S_drewN | apply Kd.S_drew)); exact HO286.out))) (below_size (by repeat (first | (with_reducible first | exact HB.out | apply below_alloc | apply pw_below_drewN | apply below_drew1 | refine below_set ?_ GE270.out) | exact HB.out)))); have n7_ := Aside0.mk (blk_below (g := gb270) (o := .cells #[.int .i64 t271, .int .i64 t272, .slice Ao77 t273.length co77, .slice Ao78 t276.length co78] 25 (0, 0)) (by (with_reducible repeat (first | refine blk_drewN ?_ _ | refine blk_drew ?_ | refine blk_alloc ?_ _)); exact BK270.out) hb); have n8_ := Aside0.mk (below_step (by repeat (first | (with_reducible first | exact HB.out | apply below_alloc | apply pw_below_drewN | apply below_drew1 | refine below_set ?_ GE270.out) | exact HB.out)) hb); clear HO275; clear HO278; clear HO283; clear HO286; clear HO289; clear BK270; clear HB; have HO275 := n0_; have HO278 := n1_; have HO283 := n2_; have HO286 := n3_; have HO289 := n4_; have HO295 := n5_; have HO298 := n6_; have BK270 := n7_; have HB := n8_; clear n0_ n1_ n2_ n3_ n4_ n5_ n6_ n7_ n8_; (try clear hb); (try clear hb2); (try clear hk); (try clear hi); (try clear ho0); (try clear ho1); obtain ⟨Ao85, co85, eo85⟩ := Kd.R_slice HO295.out; subst eo85; obtain ⟨Ao86, co86, eo86⟩ := Kd.S_slice HO298.out; subst eo86) | ((with_reducible refine gate_callee (f := 30) rfl ?_); refine goesL_ (some 24) rfl rfl Try.func30 (by kernel_rfl) rfl #[.agg #[.int .i64 t291, .int .i64 t292, .slice Ao85 t293.length co85, .slice Ao86 t296.length co86], .int .i64 a1, .int .i64 a2] rfl (by (try simp only [List.map_toArray, List.map_cons, List.map_nil]); first | done | rfl | (simp only [List.length_drop, List.length_take]; rfl)) ?_; (with_reducible refine (reach_Begins.calls t291 t292 _ _ t293 _ _ t296 a1 a2 true _ ?side1 ?side2 ?side3 ?side4 A8.out).mono ?_); (case side1 => repeat (first | exact (Kd.R_reads' HO295.out).2.2 | (with_reducible refine Kd.C_alloc ?_ _) | (with_reducible refine Kd.C_drewN ?_ _) | (with_reducible refine Kd.C_drew ?_))); (case side2 => exact (Kd.R_reads' HO295.out).2.1); (case side3 => repeat (first | exact (Kd.S_reads' HO298.out).2.2 | (with_reducible refine Kd.C_alloc ?_ _) | (with_reducible refine Kd.C_drewN ?_ _) | (with_reducible refine Kd.C_drew ?_))); (case side4 => exact (Kd.S_reads' HO298.out).2.1); rintro e w87 ⟨rfl, hb⟩; refine ⟨_, rfl, ?_⟩; have n0_ := Aside0.mk (Kd.R_below (by (with_reducible repeat (first | apply Kd.R_alloc | apply Kd.R_drewN | apply Kd.R_drew)); exact HO275.out) hb); have n1_ := Aside0.mk (Kd.S_below (by (with_reducible repeat (first | apply Kd.S_alloc | apply Kd.S_drewN | apply Kd.S_drew)); exact HO278.out) hb); have n2_ := Aside0.mk (Kd.R_below (by (with_reducible repeat (first | apply Kd.R_alloc | apply Kd.R_drewN | apply Kd.R_drew)); exact HO283.out) hb); have n3_ := Aside0.mk (Kd.S_below (by (with_reducible repeat (first | apply Kd.S_alloc | apply Kd.S_drewN | apply Kd.S_drew)); exact HO286.out) hb); have n4_ := Aside0.mk (Kd.R_below (by (with_reducible repeat (first | apply Kd.R_alloc | apply Kd.R_drewN | apply Kd.R_drew)); exact HO289.out) hb); have n5_ := Aside0.mk (Kd.R_below (by (with_reducible repeat (first | apply Kd.R_alloc | apply Kd.R_drewN | apply Kd.R_drew)); exact HO295.out) hb); have n6_ := Aside0.mk (Kd.S_below (by (with_reducible repeat (first | apply Kd.S_alloc | apply Kd.S_drewN | apply Kd.S_drew)); exact HO298.out) hb); have n7_ := Aside0.mk (blk_below (g := gb270) (o := .cells #[.int .i64 t271, .int .i64 t272, .slice Ao77 t273.length co77, .slice Ao78 t276.length co78] 25 (0, 0)) (by (with_reducible repeat (first | refine blk_drewN ?_ _ | refine blk_drew ?_ | refine blk_alloc ?_ _)); exact BK270.out) hb); have n8_ := Aside0.mk (below_step (by repeat (first | (with_reducible first | exact HB.out | apply below_alloc | apply pw_below_drewN | apply below_drew1 | refine below_set ?_ GE270.out) | exact HB.out)) hb); clear HO275; clear HO278; clear HO283; clear HO286; clear HO289; clear HO295; clear HO298; clear BK270; clear HB; have HO275 := n0_; have HO278 := n1_; have HO283 := n2_; have HO286 := n3_; have HO289 := n4_; have HO295 := n5_; have HO298 := n6_; have BK270 := n7_; have HB := n8_; clear n0_ n1_ n2_ n3_ n4_ n5_ n6_ n7_ n8_; (try clear hb); (try clear hb2); (try clear hk); (try clear hi); have hcz88_0 : w87.cell? ⟨gb270, 0, none⟩ = some (.int .i64 t271) := (blk_cell BK270.out 0).trans rfl; have hcz88_1 : w87.cell? ⟨gb270, 1, none⟩ = some (.int .i64 t272) := (blk_cell BK270.out 1).trans rfl; have hcz88_2 : w87.cell? ⟨gb270, 2, none⟩ = some (.slice Ao77 t273.length co77) := (blk_cell BK270.out 2).trans rfl; have hcz88_3 : w87.cell? ⟨gb270, 3, none⟩ = some (.slice Ao78 t276.length co78) := (blk_cell BK270.out 3).trans rfl; have hfz88_0 := blk_frozen BK270.out 0; have hfz88_1 := blk_frozen BK270.out 1; have hfz88_2 := blk_frozen BK270.out 2; have hfz88_3 := blk_frozen BK270.out 3) | ((with_reducible refine gate_callee (f := 12) rfl ?_); refine goesL_ (some 26) rfl rfl Try.func12 (by kernel_rfl) rfl #[.agg #[.int .i64 t271, .int .i64 t272, .slice Ao77 t273.length co77, .slice Ao78 t276.length co78]] rfl (by (try simp only [List.map_toArray, List.map_cons, List.map_nil]); first | done | rfl | (simp only [List.length_drop, List.length_take]; rfl)) ?_; (with_reducible refine (gramaryeref09_May.calls k t271 t272 _ _ t273 _ _ t276 t300 _ ?side1 ?side2 ?side3 ?side4 A9.out).mono ?_); (case side1 => repeat (first | exact (Kd.R_reads' HO275.out).2.2 | (with_reducible refine Kd.C_alloc ?_ _) | (with_reducible refine Kd.C_drewN ?_ _) | (with_reducible refine Kd.C_drew ?_))); (case side2 => exact (Kd.R_reads' HO275.out).2.1); (case side3 => repeat (first | exact (Kd.S_reads' HO278.out).2.2 | (with_reducible refine Kd.C_alloc ?_ _) | (with_reducible refine Kd.C_drewN ?_ _) | (with_reducible refine Kd.C_drew ?_))); (case side4 => exact (Kd.S_reads' HO278.out).2.1); rintro e w89 ⟨rfl, hb⟩; refine ⟨_, rfl, ?_⟩; have n0_ := Aside0.mk (Kd.R_below (by (with_reducible repeat (first | apply Kd.R_alloc | apply Kd.R_drewN | apply Kd.R_drew)); exact HO275.out) hb); have n1_ := Aside0.mk (Kd.S_below (by (with_reducible repeat (first | apply Kd.S_alloc | apply Kd.S_drewN | apply Kd.S_drew)); exact HO278.out) hb); have n2_ := Aside0.mk (Kd.R_below (by (with_reducible repeat (first | apply Kd.R_alloc | apply Kd.R_drewN | apply Kd.R_drew)); exact HO283.out) hb); have n3_ := Aside0.mk (Kd.S_below (by (with_reducible repeat (first | apply Kd.S_alloc | apply Kd.S_drewN | apply Kd.S_drew)); exact HO286.out) hb); have n4_ := Aside0.mk (Kd.R_below (by (with_reducible repeat (first | apply Kd.R_alloc | apply Kd.R_drewN | apply Kd.R_drew)); exact HO289.out) hb); have n5_ := Aside0.mk (Kd.R_below (by (with_reducible repeat (first | apply Kd.R_alloc | apply Kd.R_drewN | apply Kd.R_drew)); exact HO295.out) hb); have n6_ := Aside0.mk (Kd.S_below (by (with_reducible repeat (first | apply Kd.S_alloc | apply Kd.S_drewN | apply Kd.S_drew)); exact HO298.out) hb); have n7_ := Aside0.mk (blk_below (g := gb270) (o := .cells #[.int .i64 t271, .int .i64 t272, .slice Ao77 t273.length co77, .slice Ao78 t276.length co78] 25 (0, 0)) (by (with_reducible repeat (first | refine blk_drewN ?_ _ | refine blk_drew ?_ | refine blk_alloc ?_ _)); exact BK270.out) hb); have n8_ := Aside0.mk (below_step (by repeat (first | (with_reducible first | exact HB.out | apply below_alloc | apply pw_below_drewN | apply below_drew1 | refine below_set ?_ GE270.out) | exact HB.out)) hb); clear HO275; clear HO278; clear HO283; clear HO286; clear HO289; clear HO295; clear HO298; clear BK270; clear HB; have HO275 := n0_; have HO278 := n1_; have HO283 := n2_; have HO286 := n3_; have HO289 := n4_; have HO295 := n5_; have HO298 := n6_; have BK270 := n7_; have HB := n8_; clear n0_ n1_ n2_ n3_ n4_ n5_ n6_ n7_ n8_; (try clear hb); (try clear hb2); (try clear hk); (try clear hi); obtain ⟨Ao90, co90, eo90⟩ := Kd.R_slice HO289.out; subst eo90))
          go_ret
          exact ⟨by first | rfl | (simp [errW_none, errW_some] <;> rfl) | (simp [*, errW_none, errW_some] <;> rfl), by repeat (first | (with_reducible first | exact HB.out | apply below_alloc | apply pw_below_drewN | apply below_drew1 | refine below_set ?_ GE270.out) | exact HB.out)⟩
        · replace c72 := Bool.eq_false_iff.mpr c72
          subst c72
          have H1 : ((gramaryelaw11_works.f k).bind fun t301 => (some t301)) = some r := by rw [if_neg (show ¬ (false = true) by decide)] at H; exact H
          clear H
          have H := H1
          clear H1
          replace H := Option.bind_eq_some_iff.mp H
          obtain ⟨t301, A910, H⟩ := H
          replace H : (some t301) = some r := H
          have A91 := Aside0.mk A910
          clear A910
          obtain rfl := Option.some.inj H
          go_enter Try.func7, Try.ntmps7
          go_wp2_with (first | ((with_reducible refine gate_dst (N := 3) rfl ?_); (try (refine gate_guard (by rfl) ?_; dsimp only)); refine box_event ?hg (N := 3) ?hd (cs := #[.int .i64 a0_0, .int .i64 a0_1, .slice A0_2 l0_2.length c0_2, .slice A0_3 l0_3.length c0_3]) (t := 25) ?hr ?_; (case hd => rfl); (case hg => rfl); (case hr => first | (go_simp; done) | (go_simp; rfl)); intro gb270 hg w92 hbox hb; have n0_ := Aside0.mk (below_step (by repeat (first | (with_reducible first | exact HB.out | apply below_alloc | apply pw_below_drewN | apply below_drew1) | exact HB.out)) hb); have n1_ := Aside0.mk (hbox); have n2_ := Aside0.mk ((by rw [hg]; exact (below_size (by repeat (first | (with_reducible first | exact HB.out | apply below_alloc | apply pw_below_drewN | apply below_drew1) | exact HB.out))) : w.heap.size ≤ gb270)); have n3_ := Aside0.mk ((by rw [hg]; exact (below_size (by repeat (first | (with_reducible first | exact HB.out | apply below_alloc | apply pw_below_drewN | apply below_drew1) | exact HB.out))) : w.heap.size ≤ gb270)); clear HB; have HB := n0_; have BK270 := n1_; have GW270 := n2_; have GE270 := n3_; clear n0_ n1_ n2_ n3_; clear hb hbox hg; have hcz93_0 : w92.cell? ⟨gb270, 0, none⟩ = some (.int .i64 a0_0) := (blk_cell BK270.out 0).trans rfl; have hcz93_1 : w92.cell? ⟨gb270, 1, none⟩ = some (.int .i64 a0_1) := (blk_cell BK270.out 1).trans rfl; have hcz93_2 : w92.cell? ⟨gb270, 2, none⟩ = some (.slice A0_2 l0_2.length c0_2) := (blk_cell BK270.out 2).trans rfl; have hcz93_3 : w92.cell? ⟨gb270, 3, none⟩ = some (.slice A0_3 l0_3.length c0_3) := (blk_cell BK270.out 3).trans rfl; have hfz93_0 := blk_frozen BK270.out 0; have hfz93_1 := blk_frozen BK270.out 1; have hfz93_2 := blk_frozen BK270.out 2; have hfz93_3 := blk_frozen BK270.out 3) | ((with_reducible refine gate_callee (f := 23) rfl ?_); refine goesL_ (some 13) rfl rfl Try.func23 (by kernel_rfl) rfl #[.agg #[.int .i64 a0_0, .int .i64 a0_1, .slice A0_2 l0_2.length c0_2, .slice A0_3 l0_3.length c0_3]] rfl (by (try simp only [List.map_toArray, List.map_cons, List.map_nil]); first | done | rfl | (simp only [List.length_drop, List.length_take]; rfl)) ?_; (with_reducible refine (gramaryelaw11_few.calls k a0_0 a0_1 _ _ l0_2 _ _ l0_3 t271 t272 t273 t276 _ ?side1 ?side2 ?side3 ?side4 A4.out).mono ?_); (case side1 => repeat (first | exact (Kd.C_below HR0_2.out HB.out) | (with_reducible refine Kd.C_alloc ?_ _) | (with_reducible refine Kd.C_drewN ?_ _) | (with_reducible refine Kd.C_drew ?_))); (case side2 => exact HC0_2.out); (case side3 => repeat (first | exact (Kd.C_below HR0_3.out HB.out) | (with_reducible refine Kd.C_alloc ?_ _) | (with_reducible refine Kd.C_drewN ?_ _) | (with_reducible refine Kd.C_drew ?_))); (case side4 => exact HC0_3.out); rintro e w94 ⟨v274, v277, rfl, ho0, ho1, hb⟩; refine ⟨_, rfl, ?_⟩; have n0_ := Aside0.mk (Kd.R_lower ho0 (below_size (by repeat (first | (with_reducible first | exact HB.out | apply below_alloc | apply pw_below_drewN | apply below_drew1 | refine below_set ?_ GE270.out) | exact HB.out)))); have n1_ := Aside0.mk (Kd.S_lower ho1 (below_size (by repeat (first | (with_reducible first | exact HB.out | apply below_alloc | apply pw_below_drewN | apply below_drew1 | refine below_set ?_ GE270.out) | exact HB.out)))); have n2_ := Aside0.mk (blk_below (g := gb270) (o := .cells #[.int .i64 a0_0, .int .i64 a0_1, .slice A0_2 l0_2.length c0_2, .slice A0_3 l0_3.length c0_3] 25 (0, 0)) (by (with_reducible repeat (first | refine blk_drewN ?_ _ | refine blk_drew ?_ | refine blk_alloc ?_ _)); exact BK270.out) hb); have n3_ := Aside0.mk (below_step (by repeat (first | (with_reducible first | exact HB.out | apply below_alloc | apply pw_below_drewN | apply below_drew1 | refine below_set ?_ GE270.out) | exact HB.out)) hb); clear BK270; clear HB; have HO275 := n0_; have HO278 := n1_; have BK270 := n2_; have HB := n3_; clear n0_ n1_ n2_ n3_; (try clear hb); (try clear hb2); (try clear hk); (try clear hi); (try clear ho0); (try clear ho1); have hcz95_0 : w94.cell? ⟨gb270, 0, none⟩ = some (.int .i64 a0_0) := (blk_cell BK270.out 0).trans rfl; have hcz95_1 : w94.cell? ⟨gb270, 1, none⟩ = some (.int .i64 a0_1) := (blk_cell BK270.out 1).trans rfl; have hcz95_2 : w94.cell? ⟨gb270, 2, none⟩ = some (.slice A0_2 l0_2.length c0_2) := (blk_cell BK270.out 2).trans rfl; have hcz95_3 : w94.cell? ⟨gb270, 3, none⟩ = some (.slice A0_3 l0_3.length c0_3) := (blk_cell BK270.out 3).trans rfl; have hfz95_0 := blk_frozen BK270.out 0; have hfz95_1 := blk_frozen BK270.out 1; have hfz95_2 := blk_frozen BK270.out 2; have hfz95_3 := blk_frozen BK270.out 3; obtain ⟨Ao96, co96, eo96⟩ := Kd.R_slice HO275.out; subst eo96; obtain ⟨Ao97, co97, eo97⟩ := Kd.S_slice HO278.out; subst eo97) | ((with_reducible refine gate_callee (f := 23) rfl ?_); refine goesL_ (some 16) rfl rfl Try.func23 (by kernel_rfl) rfl #[.agg #[.int .i64 t271, .int .i64 t272, .slice Ao96 t273.length co96, .slice Ao97 t276.length co97]] rfl (by (try simp only [List.map_toArray, List.map_cons, List.map_nil]); first | done | rfl | (simp only [List.length_drop, List.length_take]; rfl)) ?_; (with_reducible refine (gramaryelaw11_few.calls k t271 t272 _ _ t273 _ _ t276 t279 t280 t281 t284 _ ?side1 ?side2 ?side3 ?side4 A5.out).mono ?_); (case side1 => refine (Kd.R_reads' (e := 3) (base := w.heap.size) (ok := fun k_ => True) (n := t273.length) (c := co96) ?_).2.2; exact (by (with_reducible repeat (first | apply Kd.R_alloc | apply Kd.R_drewN | apply Kd.R_drew)); exact (Kd.R_mono (Kd.R_far (p := ⟨gb270, 3, none⟩) (Kd.R_far (p := ⟨gb270, 2, none⟩) (Kd.R_far (p := ⟨gb270, 1, none⟩) (Kd.R_far (p := ⟨gb270, 0, none⟩) (Kd.R_types HO275.out BK270.out (by decide)) (fun _ hk => hk.2) (.int .i64 t271)) (fun _ hk => hk.2) (.int .i64 t272)) (fun _ hk => hk.2) (.slice Ao96 t273.length co96)) (fun _ hk => hk.2) (.slice Ao97 t276.length co97)) (fun _ h_ => h_.1)))); (case side2 => exact (Kd.R_reads' HO275.out).2.1); (case side3 => refine (Kd.S_reads' (e := 51) (base := w.heap.size) (ok := fun k_ => True) (n := t276.length) (c := co97) ?_).2.2; exact (by (with_reducible repeat (first | apply Kd.S_alloc | apply Kd.S_drewN | apply Kd.S_drew)); exact (Kd.S_mono (Kd.S_far (p := ⟨gb270, 3, none⟩) (Kd.S_far (p := ⟨gb270, 2, none⟩) (Kd.S_far (p := ⟨gb270, 1, none⟩) (Kd.S_far (p := ⟨gb270, 0, none⟩) (Kd.S_types HO278.out BK270.out (by decide)) (fun _ hk => hk.2) (.int .i64 t271)) (fun _ hk => hk.2) (.int .i64 t272)) (fun _ hk => hk.2) (.slice Ao96 t273.length co96)) (fun _ hk => hk.2) (.slice Ao97 t276.length co97)) (fun _ h_ => h_.1)))); (case side4 => exact (Kd.S_reads' HO278.out).2.1); rintro e w98 ⟨v282, v285, rfl, ho0, ho1, hb⟩; refine ⟨_, rfl, ?_⟩; have n0_ := Aside0.mk (Kd.R_elder' (by (with_reducible repeat (first | apply Kd.R_alloc | apply Kd.R_drewN | apply Kd.R_drew)); exact (Kd.R_mono (Kd.R_far (p := ⟨gb270, 3, none⟩) (Kd.R_far (p := ⟨gb270, 2, none⟩) (Kd.R_far (p := ⟨gb270, 1, none⟩) (Kd.R_far (p := ⟨gb270, 0, none⟩) (Kd.R_types HO275.out BK270.out (by decide)) (fun _ hk => hk.2) (.int .i64 t271)) (fun _ hk => hk.2) (.int .i64 t272)) (fun _ hk => hk.2) (.slice Ao96 t273.length co96)) (fun _ hk => hk.2) (.slice Ao97 t276.length co97)) (fun _ h_ => h_.1))) (Kd.R_base ho0) hb); have n1_ := Aside0.mk (Kd.S_elder' (by (with_reducible repeat (first | apply Kd.S_alloc | apply Kd.S_drewN | apply Kd.S_drew)); exact (Kd.S_mono (Kd.S_far (p := ⟨gb270, 3, none⟩) (Kd.S_far (p := ⟨gb270, 2, none⟩) (Kd.S_far (p := ⟨gb270, 1, none⟩) (Kd.S_far (p := ⟨gb270, 0, none⟩) (Kd.S_types HO278.out BK270.out (by decide)) (fun _ hk => hk.2) (.int .i64 t271)) (fun _ hk => hk.2) (.int .i64 t272)) (fun _ hk => hk.2) (.slice Ao96 t273.length co96)) (fun _ hk => hk.2) (.slice Ao97 t276.length co97)) (fun _ h_ => h_.1))) (Kd.S_base ho1) hb); have n2_ := Aside0.mk (Kd.R_lower (Kd.R_new' ho0 (Kd.R_lt (by (with_reducible repeat (first | apply Kd.R_alloc | apply Kd.R_drewN | apply Kd.R_drew)); exact (Kd.R_mono (Kd.R_far (p := ⟨gb270, 3, none⟩) (Kd.R_far (p := ⟨gb270, 2, none⟩) (Kd.R_far (p := ⟨gb270, 1, none⟩) (Kd.R_far (p := ⟨gb270, 0, none⟩) (Kd.R_types HO275.out BK270.out (by decide)) (fun _ hk => hk.2) (.int .i64 t271)) (fun _ hk => hk.2) (.int .i64 t272)) (fun _ hk => hk.2) (.slice Ao96 t273.length co96)) (fun _ hk => hk.2) (.slice Ao97 t276.length co97)) (fun _ h_ => h_.1))))) (below_size (by repeat (first | (with_reducible first | exact HB.out | apply below_alloc | apply pw_below_drewN | apply below_drew1 | refine below_set ?_ GE270.out) | exact HB.out)))); have n3_ := Aside0.mk (Kd.S_lower (Kd.S_new' ho1 (Kd.S_lt (by (with_reducible repeat (first | apply Kd.S_alloc | apply Kd.S_drewN | apply Kd.S_drew)); exact (Kd.S_mono (Kd.S_far (p := ⟨gb270, 3, none⟩) (Kd.S_far (p := ⟨gb270, 2, none⟩) (Kd.S_far (p := ⟨gb270, 1, none⟩) (Kd.S_far (p := ⟨gb270, 0, none⟩) (Kd.S_types HO278.out BK270.out (by decide)) (fun _ hk => hk.2) (.int .i64 t271)) (fun _ hk => hk.2) (.int .i64 t272)) (fun _ hk => hk.2) (.slice Ao96 t273.length co96)) (fun _ hk => hk.2) (.slice Ao97 t276.length co97)) (fun _ h_ => h_.1))))) (below_size (by repeat (first | (with_reducible first | exact HB.out | apply below_alloc | apply pw_below_drewN | apply below_drew1 | refine below_set ?_ GE270.out) | exact HB.out)))); have n4_ := Aside0.mk (blk_below (g := gb270) (o := .cells #[.int .i64 t271, .int .i64 t272, .slice Ao96 t273.length co96, .slice Ao97 t276.length co97] 25 (0, 0)) (by (with_reducible repeat (first | refine blk_drewN ?_ _ | refine blk_drew ?_ | refine blk_alloc ?_ _)); refine blk_put (cs := #[.int .i64 t271, .int .i64 t272, .slice Ao96 t273.length co96, .slice A0_3 l0_3.length c0_3]) ?_ 3 _ rfl; (with_reducible repeat (first | refine blk_drewN ?_ _ | refine blk_drew ?_ | refine blk_alloc ?_ _)); refine blk_put (cs := #[.int .i64 t271, .int .i64 t272, .slice A0_2 l0_2.length c0_2, .slice A0_3 l0_3.length c0_3]) ?_ 2 _ rfl; (with_reducible repeat (first | refine blk_drewN ?_ _ | refine blk_drew ?_ | refine blk_alloc ?_ _)); refine blk_put (cs := #[.int .i64 t271, .int .i64 a0_1, .slice A0_2 l0_2.length c0_2, .slice A0_3 l0_3.length c0_3]) ?_ 1 _ rfl; (with_reducible repeat (first | refine blk_drewN ?_ _ | refine blk_drew ?_ | refine blk_alloc ?_ _)); refine blk_put (cs := #[.int .i64 a0_0, .int .i64 a0_1, .slice A0_2 l0_2.length c0_2, .slice A0_3 l0_3.length c0_3]) ?_ 0 _ rfl; (with_reducible repeat (first | refine blk_drewN ?_ _ | refine blk_drew ?_ | refine blk_alloc ?_ _)); exact BK270.out) hb); have n5_ := Aside0.mk (below_step (by repeat (first | (with_reducible first | exact HB.out | apply below_alloc | apply pw_below_drewN | apply below_drew1 | refine below_set ?_ GE270.out) | exact HB.out)) hb); clear HO275; clear HO278; clear BK270; clear HB; have HO275 := n0_; have HO278 := n1_; have HO283 := n2_; have HO286 := n3_; have BK270 := n4_; have HB := n5_; clear n0_ n1_ n2_ n3_ n4_ n5_; (try clear hb); (try clear hb2); (try clear hk); (try clear hi); (try clear ho0); (try clear ho1); obtain ⟨Ao99, co99, eo99⟩ := Kd.R_slice HO283.out; subst eo99; obtain ⟨Ao100, co100, eo100⟩ := Kd.S_slice HO286.out; subst eo100) | ((with_reducible refine gate_callee (f := 29) rfl ?_); refine goesL_ (some 17) rfl rfl Try.func29 (by kernel_rfl) rfl #[.agg #[.int .i64 t279, .int .i64 t280, .slice Ao99 t281.length co99, .slice Ao100 t284.length co100]] rfl (by (try simp only [List.map_toArray, List.map_cons, List.map_nil]); first | done | rfl | (simp only [List.length_drop, List.length_take]; rfl)) ?_; (with_reducible refine (reach_Left.calls t279 t280 _ _ t281 _ _ t284 t287 t290 _ ?side1 ?side2 ?side3 ?side4 A6.out).mono ?_); (case side1 => repeat (first | exact (Kd.R_reads' HO283.out).2.2 | (with_reducible refine Kd.C_alloc ?_ _) | (with_reducible refine Kd.C_drewN ?_ _) | (with_reducible refine Kd.C_drew ?_))); (case side2 => exact (Kd.R_reads' HO283.out).2.1); (case side3 => repeat (first | exact (Kd.S_reads' HO286.out).2.2 | (with_reducible refine Kd.C_alloc ?_ _) | (with_reducible refine Kd.C_drewN ?_ _) | (with_reducible refine Kd.C_drew ?_))); (case side4 => exact (Kd.S_reads' HO286.out).2.1); rintro e w101 ⟨v288, rfl, ho0, hb⟩; refine ⟨_, rfl, ?_⟩; have n0_ := Aside0.mk (Kd.R_elder' (by (with_reducible repeat (first | apply Kd.R_alloc | apply Kd.R_drewN | apply Kd.R_drew)); exact HO275.out) (Kd.R_base ho0) hb); have n1_ := Aside0.mk (Kd.S_below (by (with_reducible repeat (first | apply Kd.S_alloc | apply Kd.S_drewN | apply Kd.S_drew)); exact HO278.out) hb); have n2_ := Aside0.mk (Kd.R_elder' (by (with_reducible repeat (first | apply Kd.R_alloc | apply Kd.R_drewN | apply Kd.R_drew)); exact HO283.out) (Kd.R_base ho0) hb); have n3_ := Aside0.mk (Kd.S_below (by (with_reducible repeat (first | apply Kd.S_alloc | apply Kd.S_drewN | apply Kd.S_drew)); exact HO286.out) hb); have n4_ := Aside0.mk (Kd.R_lower (Kd.R_new' (Kd.R_new' ho0 (Kd.R_lt (by (with_reducible repeat (first | apply Kd.R_alloc | apply Kd.R_drewN | apply Kd.R_drew)); exact HO275.out))) (Kd.R_lt (by (with_reducible repeat (first | apply Kd.R_alloc | apply Kd.R_drewN | apply Kd.R_drew)); exact HO283.out))) (below_size (by repeat (first | (with_reducible first | exact HB.out | apply below_alloc | apply pw_below_drewN | apply below_drew1 | refine below_set ?_ GE270.out) | exact HB.out)))); have n5_ := Aside0.mk (blk_below (g := gb270) (o := .cells #[.int .i64 t271, .int .i64 t272, .slice Ao96 t273.length co96, .slice Ao97 t276.length co97] 25 (0, 0)) (by (with_reducible repeat (first | refine blk_drewN ?_ _ | refine blk_drew ?_ | refine blk_alloc ?_ _)); exact BK270.out) hb); have n6_ := Aside0.mk (below_step (by repeat (first | (with_reducible first | exact HB.out | apply below_alloc | apply pw_below_drewN | apply below_drew1 | refine below_set ?_ GE270.out) | exact HB.out)) hb); clear HO275; clear HO278; clear HO283; clear HO286; clear BK270; clear HB; have HO275 := n0_; have HO278 := n1_; have HO283 := n2_; have HO286 := n3_; have HO289 := n4_; have BK270 := n5_; have HB := n6_; clear n0_ n1_ n2_ n3_ n4_ n5_ n6_; (try clear hb); (try clear hb2); (try clear hk); (try clear hi); (try clear ho0); have hcz102_0 : w101.cell? ⟨gb270, 0, none⟩ = some (.int .i64 t271) := (blk_cell BK270.out 0).trans rfl; have hcz102_1 : w101.cell? ⟨gb270, 1, none⟩ = some (.int .i64 t272) := (blk_cell BK270.out 1).trans rfl; have hcz102_2 : w101.cell? ⟨gb270, 2, none⟩ = some (.slice Ao96 t273.length co96) := (blk_cell BK270.out 2).trans rfl; have hcz102_3 : w101.cell? ⟨gb270, 3, none⟩ = some (.slice Ao97 t276.length co97) := (blk_cell BK270.out 3).trans rfl; have hfz102_0 := blk_frozen BK270.out 0; have hfz102_1 := blk_frozen BK270.out 1; have hfz102_2 := blk_frozen BK270.out 2; have hfz102_3 := blk_frozen BK270.out 3) | ((with_reducible refine gate_callee (f := 23) rfl ?_); refine goesL_ (some 21) rfl rfl Try.func23 (by kernel_rfl) rfl #[.agg #[.int .i64 t271, .int .i64 t272, .slice Ao96 t273.length co96, .slice Ao97 t276.length co97]] rfl (by (try simp only [List.map_toArray, List.map_cons, List.map_nil]); first | done | rfl | (simp only [List.length_drop, List.length_take]; rfl)) ?_; (with_reducible refine (gramaryelaw11_few.calls k t271 t272 _ _ t273 _ _ t276 t291 t292 t293 t296 _ ?side1 ?side2 ?side3 ?side4 A7.out).mono ?_); (case side1 => repeat (first | exact (Kd.R_reads' HO275.out).2.2 | (with_reducible refine Kd.C_alloc ?_ _) | (with_reducible refine Kd.C_drewN ?_ _) | (with_reducible refine Kd.C_drew ?_))); (case side2 => exact (Kd.R_reads' HO275.out).2.1); (case side3 => repeat (first | exact (Kd.S_reads' HO278.out).2.2 | (with_reducible refine Kd.C_alloc ?_ _) | (with_reducible refine Kd.C_drewN ?_ _) | (with_reducible refine Kd.C_drew ?_))); (case side4 => exact (Kd.S_reads' HO278.out).2.1); rintro e w103 ⟨v294, v297, rfl, ho0, ho1, hb⟩; refine ⟨_, rfl, ?_⟩; have n0_ := Aside0.mk (Kd.R_elder' (by (with_reducible repeat (first | apply Kd.R_alloc | apply Kd.R_drewN | apply Kd.R_drew)); exact HO275.out) (Kd.R_base ho0) hb); have n1_ := Aside0.mk (Kd.S_elder' (by (with_reducible repeat (first | apply Kd.S_alloc | apply Kd.S_drewN | apply Kd.S_drew)); exact HO278.out) (Kd.S_base ho1) hb); have n2_ := Aside0.mk (Kd.R_elder' (by (with_reducible repeat (first | apply Kd.R_alloc | apply Kd.R_drewN | apply Kd.R_drew)); exact HO283.out) (Kd.R_base ho0) hb); have n3_ := Aside0.mk (Kd.S_elder' (by (with_reducible repeat (first | apply Kd.S_alloc | apply Kd.S_drewN | apply Kd.S_drew)); exact HO286.out) (Kd.S_base ho1) hb); have n4_ := Aside0.mk (Kd.R_elder' (by (with_reducible repeat (first | apply Kd.R_alloc | apply Kd.R_drewN | apply Kd.R_drew)); exact HO289.out) (Kd.R_base ho0) hb); have n5_ := Aside0.mk (Kd.R_lower (Kd.R_new' (Kd.R_new' (Kd.R_new' ho0 (Kd.R_lt (by (with_reducible repeat (first | apply Kd.R_alloc | apply Kd.R_drewN | apply Kd.R_drew)); exact HO275.out))) (Kd.R_lt (by (with_reducible repeat (first | apply Kd.R_alloc | apply Kd.R_drewN | apply Kd.R_drew)); exact HO283.out))) (Kd.R_lt (by (with_reducible repeat (first | apply Kd.R_alloc | apply Kd.R_drewN | apply Kd.R_drew)); exact HO289.out))) (below_size (by repeat (first | (with_reducible first | exact HB.out | apply below_alloc | apply pw_below_drewN | apply below_drew1 | refine below_set ?_ GE270.out) | exact HB.out)))); have n6_ := Aside0.mk (Kd.S_lower (Kd.S_new' (Kd.S_new' ho1 (Kd.S_lt (by (with_reducible repeat (first | apply Kd.S_alloc | apply Kd.S_drewN | apply Kd.S_drew)); exact HO278.out))) (Kd.S_lt (by (with_reducible repeat (first | apply Kd.S_alloc | apply Kd.S_drewN | apply Kd.S_drew)); exact HO286.out))) (below_size (by repeat (first | (with_reducible first | exact HB.out | apply below_alloc | apply pw_below_drewN | apply below_drew1 | refine below_set ?_ GE270.out) | exact HB.out)))); have n7_ := Aside0.mk (blk_below (g := gb270) (o := .cells #[.int .i64 t271, .int .i64 t272, .slice Ao96 t273.length co96, .slice Ao97 t276.length co97] 25 (0, 0)) (by (with_reducible repeat (first | refine blk_drewN ?_ _ | refine blk_drew ?_ | refine blk_alloc ?_ _)); exact BK270.out) hb); have n8_ := Aside0.mk (below_step (by repeat (first | (with_reducible first | exact HB.out | apply below_alloc | apply pw_below_drewN | apply below_drew1 | refine below_set ?_ GE270.out) | exact HB.out)) hb); clear HO275; clear HO278; clear HO283; clear HO286; clear HO289; clear BK270; clear HB; have HO275 := n0_; have HO278 := n1_; have HO283 := n2_; have HO286 := n3_; have HO289 := n4_; have HO295 := n5_; have HO298 := n6_; have BK270 := n7_; have HB := n8_; clear n0_ n1_ n2_ n3_ n4_ n5_ n6_ n7_ n8_; (try clear hb); (try clear hb2); (try clear hk); (try clear hi); (try clear ho0); (try clear ho1); obtain ⟨Ao104, co104, eo104⟩ := Kd.R_slice HO295.out; subst eo104; obtain ⟨Ao105, co105, eo105⟩ := Kd.S_slice HO298.out; subst eo105) | ((with_reducible refine gate_callee (f := 30) rfl ?_); refine goesL_ (some 24) rfl rfl Try.func30 (by kernel_rfl) rfl #[.agg #[.int .i64 t291, .int .i64 t292, .slice Ao104 t293.length co104, .slice Ao105 t296.length co105], .int .i64 a1, .int .i64 a2] rfl (by (try simp only [List.map_toArray, List.map_cons, List.map_nil]); first | done | rfl | (simp only [List.length_drop, List.length_take]; rfl)) ?_; (with_reducible refine (reach_Begins.calls t291 t292 _ _ t293 _ _ t296 a1 a2 false _ ?side1 ?side2 ?side3 ?side4 A8.out).mono ?_); (case side1 => repeat (first | exact (Kd.R_reads' HO295.out).2.2 | (with_reducible refine Kd.C_alloc ?_ _) | (with_reducible refine Kd.C_drewN ?_ _) | (with_reducible refine Kd.C_drew ?_))); (case side2 => exact (Kd.R_reads' HO295.out).2.1); (case side3 => repeat (first | exact (Kd.S_reads' HO298.out).2.2 | (with_reducible refine Kd.C_alloc ?_ _) | (with_reducible refine Kd.C_drewN ?_ _) | (with_reducible refine Kd.C_drew ?_))); (case side4 => exact (Kd.S_reads' HO298.out).2.1); rintro e w106 ⟨rfl, hb⟩; refine ⟨_, rfl, ?_⟩; have n0_ := Aside0.mk (Kd.R_below (by (with_reducible repeat (first | apply Kd.R_alloc | apply Kd.R_drewN | apply Kd.R_drew)); exact HO275.out) hb); have n1_ := Aside0.mk (Kd.S_below (by (with_reducible repeat (first | apply Kd.S_alloc | apply Kd.S_drewN | apply Kd.S_drew)); exact HO278.out) hb); have n2_ := Aside0.mk (Kd.R_below (by (with_reducible repeat (first | apply Kd.R_alloc | apply Kd.R_drewN | apply Kd.R_drew)); exact HO283.out) hb); have n3_ := Aside0.mk (Kd.S_below (by (with_reducible repeat (first | apply Kd.S_alloc | apply Kd.S_drewN | apply Kd.S_drew)); exact HO286.out) hb); have n4_ := Aside0.mk (Kd.R_below (by (with_reducible repeat (first | apply Kd.R_alloc | apply Kd.R_drewN | apply Kd.R_drew)); exact HO289.out) hb); have n5_ := Aside0.mk (Kd.R_below (by (with_reducible repeat (first | apply Kd.R_alloc | apply Kd.R_drewN | apply Kd.R_drew)); exact HO295.out) hb); have n6_ := Aside0.mk (Kd.S_below (by (with_reducible repeat (first | apply Kd.S_alloc | apply Kd.S_drewN | apply Kd.S_drew)); exact HO298.out) hb); have n7_ := Aside0.mk (blk_below (g := gb270) (o := .cells #[.int .i64 t271, .int .i64 t272, .slice Ao96 t273.length co96, .slice Ao97 t276.length co97] 25 (0, 0)) (by (with_reducible repeat (first | refine blk_drewN ?_ _ | refine blk_drew ?_ | refine blk_alloc ?_ _)); exact BK270.out) hb); have n8_ := Aside0.mk (below_step (by repeat (first | (with_reducible first | exact HB.out | apply below_alloc | apply pw_below_drewN | apply below_drew1 | refine below_set ?_ GE270.out) | exact HB.out)) hb); clear HO275; clear HO278; clear HO283; clear HO286; clear HO289; clear HO295; clear HO298; clear BK270; clear HB; have HO275 := n0_; have HO278 := n1_; have HO283 := n2_; have HO286 := n3_; have HO289 := n4_; have HO295 := n5_; have HO298 := n6_; have BK270 := n7_; have HB := n8_; clear n0_ n1_ n2_ n3_ n4_ n5_ n6_ n7_ n8_; (try clear hb); (try clear hb2); (try clear hk); (try clear hi); have hcz107_0 : w106.cell? ⟨gb270, 0, none⟩ = some (.int .i64 t271) := (blk_cell BK270.out 0).trans rfl; have hcz107_1 : w106.cell? ⟨gb270, 1, none⟩ = some (.int .i64 t272) := (blk_cell BK270.out 1).trans rfl; have hcz107_2 : w106.cell? ⟨gb270, 2, none⟩ = some (.slice Ao96 t273.length co96) := (blk_cell BK270.out 2).trans rfl; have hcz107_3 : w106.cell? ⟨gb270, 3, none⟩ = some (.slice Ao97 t276.length co97) := (blk_cell BK270.out 3).trans rfl; have hfz107_0 := blk_frozen BK270.out 0; have hfz107_1 := blk_frozen BK270.out 1; have hfz107_2 := blk_frozen BK270.out 2; have hfz107_3 := blk_frozen BK270.out 3) | ((with_reducible refine gate_callee (f := 12) rfl ?_); refine goesL_ (some 26) rfl rfl Try.func12 (by kernel_rfl) rfl #[.agg #[.int .i64 t271, .int .i64 t272, .slice Ao96 t273.length co96, .slice Ao97 t276.length co97]] rfl (by (try simp only [List.map_toArray, List.map_cons, List.map_nil]); first | done | rfl | (simp only [List.length_drop, List.length_take]; rfl)) ?_; (with_reducible refine (gramaryeref09_May.calls k t271 t272 _ _ t273 _ _ t276 t300 _ ?side1 ?side2 ?side3 ?side4 A9.out).mono ?_); (case side1 => repeat (first | exact (Kd.R_reads' HO275.out).2.2 | (with_reducible refine Kd.C_alloc ?_ _) | (with_reducible refine Kd.C_drewN ?_ _) | (with_reducible refine Kd.C_drew ?_))); (case side2 => exact (Kd.R_reads' HO275.out).2.1); (case side3 => repeat (first | exact (Kd.S_reads' HO278.out).2.2 | (with_reducible refine Kd.C_alloc ?_ _) | (with_reducible refine Kd.C_drewN ?_ _) | (with_reducible refine Kd.C_drew ?_))); (case side4 => exact (Kd.S_reads' HO278.out).2.1); rintro e w108 ⟨rfl, hb⟩; refine ⟨_, rfl, ?_⟩; have n0_ := Aside0.mk (Kd.R_below (by (with_reducible repeat (first | apply Kd.R_alloc | apply Kd.R_drewN | apply Kd.R_drew)); exact HO275.out) hb); have n1_ := Aside0.mk (Kd.S_below (by (with_reducible repeat (first | apply Kd.S_alloc | apply Kd.S_drewN | apply Kd.S_drew)); exact HO278.out) hb); have n2_ := Aside0.mk (Kd.R_below (by (with_reducible repeat (first | apply Kd.R_alloc | apply Kd.R_drewN | apply Kd.R_drew)); exact HO283.out) hb); have n3_ := Aside0.mk (Kd.S_below (by (with_reducible repeat (first | apply Kd.S_alloc | apply Kd.S_drewN | apply Kd.S_drew)); exact HO286.out) hb); have n4_ := Aside0.mk (Kd.R_below (by (with_reducible repeat (first | apply Kd.R_alloc | apply Kd.R_drewN | apply Kd.R_drew)); exact HO289.out) hb); have n5_ := Aside0.mk (Kd.R_below (by (with_reducible repeat (first | apply Kd.R_alloc | apply Kd.R_drewN | apply Kd.R_drew)); exact HO295.out) hb); have n6_ := Aside0.mk (Kd.S_below (by (with_reducible repeat (first | apply Kd.S_alloc | apply Kd.S_drewN | apply Kd.S_drew)); exact HO298.out) hb); have n7_ := Aside0.mk (blk_below (g := gb270) (o := .cells #[.int .i64 t271, .int .i64 t272, .slice Ao96 t273.length co96, .slice Ao97 t276.length co97] 25 (0, 0)) (by (with_reducible repeat (first | refine blk_drewN ?_ _ | refine blk_drew ?_ | refine blk_alloc ?_ _)); exact BK270.out) hb); have n8_ := Aside0.mk (below_step (by repeat (first | (with_reducible first | exact HB.out | apply below_alloc | apply pw_below_drewN | apply below_drew1 | refine below_set ?_ GE270.out) | exact HB.out)) hb); clear HO275; clear HO278; clear HO283; clear HO286; clear HO289; clear HO295; clear HO298; clear BK270; clear HB; have HO275 := n0_; have HO278 := n1_; have HO283 := n2_; have HO286 := n3_; have HO289 := n4_; have HO295 := n5_; have HO298 := n6_; have BK270 := n7_; have HB := n8_; clear n0_ n1_ n2_ n3_ n4_ n5_ n6_ n7_ n8_; (try clear hb); (try clear hb2); (try clear hk); (try clear hi); obtain ⟨Ao109, co109, eo109⟩ := Kd.R_slice HO289.out; subst eo109) | (go_at_call 26; (with_reducible refine (gramaryelaw11_works.calls k  t301 _ A91.out).mono ?_); rintro e w110 ⟨rfl, hb⟩; have n0_ := Aside0.mk (Kd.R_below (by (with_reducible repeat (first | apply Kd.R_alloc | apply Kd.R_drewN | apply Kd.R_drew)); exact HO275.out) hb); have n1_ := Aside0.mk (Kd.S_below (by (with_reducible repeat (first | apply Kd.S_alloc | apply Kd.S_drewN | apply Kd.S_drew)); exact HO278.out) hb); have n2_ := Aside0.mk (Kd.R_below (by (with_reducible repeat (first | apply Kd.R_alloc | apply Kd.R_drewN | apply Kd.R_drew)); exact HO283.out) hb); have n3_ := Aside0.mk (Kd.S_below (by (with_reducible repeat (first | apply Kd.S_alloc | apply Kd.S_drewN | apply Kd.S_drew)); exact HO286.out) hb); have n4_ := Aside0.mk (Kd.R_below (by (with_reducible repeat (first | apply Kd.R_alloc | apply Kd.R_drewN | apply Kd.R_drew)); exact HO289.out) hb); have n5_ := Aside0.mk (Kd.R_below (by (with_reducible repeat (first | apply Kd.R_alloc | apply Kd.R_drewN | apply Kd.R_drew)); exact HO295.out) hb); have n6_ := Aside0.mk (Kd.S_below (by (with_reducible repeat (first | apply Kd.S_alloc | apply Kd.S_drewN | apply Kd.S_drew)); exact HO298.out) hb); have n7_ := Aside0.mk (blk_below (g := gb270) (o := .cells #[.int .i64 t271, .int .i64 t272, .slice Ao96 t273.length co96, .slice Ao97 t276.length co97] 25 (0, 0)) (by (with_reducible repeat (first | refine blk_drewN ?_ _ | refine blk_drew ?_ | refine blk_alloc ?_ _)); exact BK270.out) hb); have n8_ := Aside0.mk (below_step (by repeat (first | (with_reducible first | exact HB.out | apply below_alloc | apply pw_below_drewN | apply below_drew1 | refine below_set ?_ GE270.out) | exact HB.out)) hb); clear HO275; clear HO278; clear HO283; clear HO286; clear HO289; clear HO295; clear HO298; clear BK270; clear HB; have HO275 := n0_; have HO278 := n1_; have HO283 := n2_; have HO286 := n3_; have HO289 := n4_; have HO295 := n5_; have HO298 := n6_; have BK270 := n7_; have HB := n8_; clear n0_ n1_ n2_ n3_ n4_ n5_ n6_ n7_ n8_; (try clear hb); (try clear hb2); (try clear hk); (try clear hi)))
          go_ret
          exact ⟨by first | rfl | (simp [errW_none, errW_some] <;> rfl) | (simp [*, errW_none, errW_some] <;> rfl), by repeat (first | (with_reducible first | exact HB.out | apply below_alloc | apply pw_below_drewN | apply below_drew1 | refine below_set ?_ GE270.out) | exact HB.out)⟩
      · rw [if_neg c71] at H
        have c71b0 : ((t287.length : Int) == 0) = false := beq_eq_false_iff_ne.mpr c71
        have c71b1 : ((t287.length : Int) != 0) = true := bne_iff_ne.mpr c71
        have c71b2 : ¬ (t287 = []) := fun h_ => c71 (by rw [h_]; rfl)
        obtain rfl := Option.some.inj H
        go_enter Try.func7, Try.ntmps7
        go_wp2_with (first | ((with_reducible refine gate_dst (N := 3) rfl ?_); (try (refine gate_guard (by rfl) ?_; dsimp only)); refine box_event ?hg (N := 3) ?hd (cs := #[.int .i64 a0_0, .int .i64 a0_1, .slice A0_2 l0_2.length c0_2, .slice A0_3 l0_3.length c0_3]) (t := 25) ?hr ?_; (case hd => rfl); (case hg => rfl); (case hr => first | (go_simp; done) | (go_simp; rfl)); intro gb270 hg w111 hbox hb; have n0_ := Aside0.mk (below_step (by repeat (first | (with_reducible first | exact HB.out | apply below_alloc | apply pw_below_drewN | apply below_drew1) | exact HB.out)) hb); have n1_ := Aside0.mk (hbox); have n2_ := Aside0.mk ((by rw [hg]; exact (below_size (by repeat (first | (with_reducible first | exact HB.out | apply below_alloc | apply pw_below_drewN | apply below_drew1) | exact HB.out))) : w.heap.size ≤ gb270)); have n3_ := Aside0.mk ((by rw [hg]; exact (below_size (by repeat (first | (with_reducible first | exact HB.out | apply below_alloc | apply pw_below_drewN | apply below_drew1) | exact HB.out))) : w.heap.size ≤ gb270)); clear HB; have HB := n0_; have BK270 := n1_; have GW270 := n2_; have GE270 := n3_; clear n0_ n1_ n2_ n3_; clear hb hbox hg; have hcz112_0 : w111.cell? ⟨gb270, 0, none⟩ = some (.int .i64 a0_0) := (blk_cell BK270.out 0).trans rfl; have hcz112_1 : w111.cell? ⟨gb270, 1, none⟩ = some (.int .i64 a0_1) := (blk_cell BK270.out 1).trans rfl; have hcz112_2 : w111.cell? ⟨gb270, 2, none⟩ = some (.slice A0_2 l0_2.length c0_2) := (blk_cell BK270.out 2).trans rfl; have hcz112_3 : w111.cell? ⟨gb270, 3, none⟩ = some (.slice A0_3 l0_3.length c0_3) := (blk_cell BK270.out 3).trans rfl; have hfz112_0 := blk_frozen BK270.out 0; have hfz112_1 := blk_frozen BK270.out 1; have hfz112_2 := blk_frozen BK270.out 2; have hfz112_3 := blk_frozen BK270.out 3) | ((with_reducible refine gate_callee (f := 23) rfl ?_); refine goesL_ (some 13) rfl rfl Try.func23 (by kernel_rfl) rfl #[.agg #[.int .i64 a0_0, .int .i64 a0_1, .slice A0_2 l0_2.length c0_2, .slice A0_3 l0_3.length c0_3]] rfl (by (try simp only [List.map_toArray, List.map_cons, List.map_nil]); first | done | rfl | (simp only [List.length_drop, List.length_take]; rfl)) ?_; (with_reducible refine (gramaryelaw11_few.calls k a0_0 a0_1 _ _ l0_2 _ _ l0_3 t271 t272 t273 t276 _ ?side1 ?side2 ?side3 ?side4 A4.out).mono ?_); (case side1 => repeat (first | exact (Kd.C_below HR0_2.out HB.out) | (with_reducible refine Kd.C_alloc ?_ _) | (with_reducible refine Kd.C_drewN ?_ _) | (with_reducible refine Kd.C_drew ?_))); (case side2 => exact HC0_2.out); (case side3 => repeat (first | exact (Kd.C_below HR0_3.out HB.out) | (with_reducible refine Kd.C_alloc ?_ _) | (with_reducible refine Kd.C_drewN ?_ _) | (with_reducible refine Kd.C_drew ?_))); (case side4 => exact HC0_3.out); rintro e w113 ⟨v274, v277, rfl, ho0, ho1, hb⟩; refine ⟨_, rfl, ?_⟩; have n0_ := Aside0.mk (Kd.R_lower ho0 (below_size (by repeat (first | (with_reducible first | exact HB.out | apply below_alloc | apply pw_below_drewN | apply below_drew1 | refine below_set ?_ GE270.out) | exact HB.out)))); have n1_ := Aside0.mk (Kd.S_lower ho1 (below_size (by repeat (first | (with_reducible first | exact HB.out | apply below_alloc | apply pw_below_drewN | apply below_drew1 | refine below_set ?_ GE270.out) | exact HB.out)))); have n2_ := Aside0.mk (blk_below (g := gb270) (o := .cells #[.int .i64 a0_0, .int .i64 a0_1, .slice A0_2 l0_2.length c0_2, .slice A0_3 l0_3.length c0_3] 25 (0, 0)) (by (with_reducible repeat (first | refine blk_drewN ?_ _ | refine blk_drew ?_ | refine blk_alloc ?_ _)); exact BK270.out) hb); have n3_ := Aside0.mk (below_step (by repeat (first | (with_reducible first | exact HB.out | apply below_alloc | apply pw_below_drewN | apply below_drew1 | refine below_set ?_ GE270.out) | exact HB.out)) hb); clear BK270; clear HB; have HO275 := n0_; have HO278 := n1_; have BK270 := n2_; have HB := n3_; clear n0_ n1_ n2_ n3_; (try clear hb); (try clear hb2); (try clear hk); (try clear hi); (try clear ho0); (try clear ho1); have hcz114_0 : w113.cell? ⟨gb270, 0, none⟩ = some (.int .i64 a0_0) := (blk_cell BK270.out 0).trans rfl; have hcz114_1 : w113.cell? ⟨gb270, 1, none⟩ = some (.int .i64 a0_1) := (blk_cell BK270.out 1).trans rfl; have hcz114_2 : w113.cell? ⟨gb270, 2, none⟩ = some (.slice A0_2 l0_2.length c0_2) := (blk_cell BK270.out 2).trans rfl; have hcz114_3 : w113.cell? ⟨gb270, 3, none⟩ = some (.slice A0_3 l0_3.length c0_3) := (blk_cell BK270.out 3).trans rfl; have hfz114_0 := blk_frozen BK270.out 0; have hfz114_1 := blk_frozen BK270.out 1; have hfz114_2 := blk_frozen BK270.out 2; have hfz114_3 := blk_frozen BK270.out 3; obtain ⟨Ao115, co115, eo115⟩ := Kd.R_slice HO275.out; subst eo115; obtain ⟨Ao116, co116, eo116⟩ := Kd.S_slice HO278.out; subst eo116) | ((with_reducible refine gate_callee (f := 23) rfl ?_); refine goesL_ (some 16) rfl rfl Try.func23 (by kernel_rfl) rfl #[.agg #[.int .i64 t271, .int .i64 t272, .slice Ao115 t273.length co115, .slice Ao116 t276.length co116]] rfl (by (try simp only [List.map_toArray, List.map_cons, List.map_nil]); first | done | rfl | (simp only [List.length_drop, List.length_take]; rfl)) ?_; (with_reducible refine (gramaryelaw11_few.calls k t271 t272 _ _ t273 _ _ t276 t279 t280 t281 t284 _ ?side1 ?side2 ?side3 ?side4 A5.out).mono ?_); (case side1 => refine (Kd.R_reads' (e := 3) (base := w.heap.size) (ok := fun k_ => True) (n := t273.length) (c := co115) ?_).2.2; exact (by (with_reducible repeat (first | apply Kd.R_alloc | apply Kd.R_drewN | apply Kd.R_drew)); exact (Kd.R_mono (Kd.R_far (p := ⟨gb270, 3, none⟩) (Kd.R_far (p := ⟨gb270, 2, none⟩) (Kd.R_far (p := ⟨gb270, 1, none⟩) (Kd.R_far (p := ⟨gb270, 0, none⟩) (Kd.R_types HO275.out BK270.out (by decide)) (fun _ hk => hk.2) (.int .i64 t271)) (fun _ hk => hk.2) (.int .i64 t272)) (fun _ hk => hk.2) (.slice Ao115 t273.length co115)) (fun _ hk => hk.2) (.slice Ao116 t276.length co116)) (fun _ h_ => h_.1)))); (case side2 => exact (Kd.R_reads' HO275.out).2.1); (case side3 => refine (Kd.S_reads' (e := 51) (base := w.heap.size) (ok := fun k_ => True) (n := t276.length) (c := co116) ?_).2.2; exact (by (with_reducible repeat (first | apply Kd.S_alloc | apply Kd.S_drewN | apply Kd.S_drew)); exact (Kd.S_mono (Kd.S_far (p := ⟨gb270, 3, none⟩) (Kd.S_far (p := ⟨gb270, 2, none⟩) (Kd.S_far (p := ⟨gb270, 1, none⟩) (Kd.S_far (p := ⟨gb270, 0, none⟩) (Kd.S_types HO278.out BK270.out (by decide)) (fun _ hk => hk.2) (.int .i64 t271)) (fun _ hk => hk.2) (.int .i64 t272)) (fun _ hk => hk.2) (.slice Ao115 t273.length co115)) (fun _ hk => hk.2) (.slice Ao116 t276.length co116)) (fun _ h_ => h_.1)))); (case side4 => exact (Kd.S_reads' HO278.out).2.1); rintro e w117 ⟨v282, v285, rfl, ho0, ho1, hb⟩; refine ⟨_, rfl, ?_⟩; have n0_ := Aside0.mk (Kd.R_elder' (by (with_reducible repeat (first | apply Kd.R_alloc | apply Kd.R_drewN | apply Kd.R_drew)); exact (Kd.R_mono (Kd.R_far (p := ⟨gb270, 3, none⟩) (Kd.R_far (p := ⟨gb270, 2, none⟩) (Kd.R_far (p := ⟨gb270, 1, none⟩) (Kd.R_far (p := ⟨gb270, 0, none⟩) (Kd.R_types HO275.out BK270.out (by decide)) (fun _ hk => hk.2) (.int .i64 t271)) (fun _ hk => hk.2) (.int .i64 t272)) (fun _ hk => hk.2) (.slice Ao115 t273.length co115)) (fun _ hk => hk.2) (.slice Ao116 t276.length co116)) (fun _ h_ => h_.1))) (Kd.R_base ho0) hb); have n1_ := Aside0.mk (Kd.S_elder' (by (with_reducible repeat (first | apply Kd.S_alloc | apply Kd.S_drewN | apply Kd.S_drew)); exact (Kd.S_mono (Kd.S_far (p := ⟨gb270, 3, none⟩) (Kd.S_far (p := ⟨gb270, 2, none⟩) (Kd.S_far (p := ⟨gb270, 1, none⟩) (Kd.S_far (p := ⟨gb270, 0, none⟩) (Kd.S_types HO278.out BK270.out (by decide)) (fun _ hk => hk.2) (.int .i64 t271)) (fun _ hk => hk.2) (.int .i64 t272)) (fun _ hk => hk.2) (.slice Ao115 t273.length co115)) (fun _ hk => hk.2) (.slice Ao116 t276.length co116)) (fun _ h_ => h_.1))) (Kd.S_base ho1) hb); have n2_ := Aside0.mk (Kd.R_lower (Kd.R_new' ho0 (Kd.R_lt (by (with_reducible repeat (first | apply Kd.R_alloc | apply Kd.R_drewN | apply Kd.R_drew)); exact (Kd.R_mono (Kd.R_far (p := ⟨gb270, 3, none⟩) (Kd.R_far (p := ⟨gb270, 2, none⟩) (Kd.R_far (p := ⟨gb270, 1, none⟩) (Kd.R_far (p := ⟨gb270, 0, none⟩) (Kd.R_types HO275.out BK270.out (by decide)) (fun _ hk => hk.2) (.int .i64 t271)) (fun _ hk => hk.2) (.int .i64 t272)) (fun _ hk => hk.2) (.slice Ao115 t273.length co115)) (fun _ hk => hk.2) (.slice Ao116 t276.length co116)) (fun _ h_ => h_.1))))) (below_size (by repeat (first | (with_reducible first | exact HB.out | apply below_alloc | apply pw_below_drewN | apply below_drew1 | refine below_set ?_ GE270.out) | exact HB.out)))); have n3_ := Aside0.mk (Kd.S_lower (Kd.S_new' ho1 (Kd.S_lt (by (with_reducible repeat (first | apply Kd.S_alloc | apply Kd.S_drewN | apply Kd.S_drew)); exact (Kd.S_mono (Kd.S_far (p := ⟨gb270, 3, none⟩) (Kd.S_far (p := ⟨gb270, 2, none⟩) (Kd.S_far (p := ⟨gb270, 1, none⟩) (Kd.S_far (p := ⟨gb270, 0, none⟩) (Kd.S_types HO278.out BK270.out (by decide)) (fun _ hk => hk.2) (.int .i64 t271)) (fun _ hk => hk.2) (.int .i64 t272)) (fun _ hk => hk.2) (.slice Ao115 t273.length co115)) (fun _ hk => hk.2) (.slice Ao116 t276.length co116)) (fun _ h_ => h_.1))))) (below_size (by repeat (first | (with_reducible first | exact HB.out | apply below_alloc | apply pw_below_drewN | apply below_drew1 | refine below_set ?_ GE270.out) | exact HB.out)))); have n4_ := Aside0.mk (blk_below (g := gb270) (o := .cells #[.int .i64 t271, .int .i64 t272, .slice Ao115 t273.length co115, .slice Ao116 t276.length co116] 25 (0, 0)) (by (with_reducible repeat (first | refine blk_drewN ?_ _ | refine blk_drew ?_ | refine blk_alloc ?_ _)); refine blk_put (cs := #[.int .i64 t271, .int .i64 t272, .slice Ao115 t273.length co115, .slice A0_3 l0_3.length c0_3]) ?_ 3 _ rfl; (with_reducible repeat (first | refine blk_drewN ?_ _ | refine blk_drew ?_ | refine blk_alloc ?_ _)); refine blk_put (cs := #[.int .i64 t271, .int .i64 t272, .slice A0_2 l0_2.length c0_2, .slice A0_3 l0_3.length c0_3]) ?_ 2 _ rfl; (with_reducible repeat (first | refine blk_drewN ?_ _ | refine blk_drew ?_ | refine blk_alloc ?_ _)); refine blk_put (cs := #[.int .i64 t271, .int .i64 a0_1, .slice A0_2 l0_2.length c0_2, .slice A0_3 l0_3.length c0_3]) ?_ 1 _ rfl; (with_reducible repeat (first | refine blk_drewN ?_ _ | refine blk_drew ?_ | refine blk_alloc ?_ _)); refine blk_put (cs := #[.int .i64 a0_0, .int .i64 a0_1, .slice A0_2 l0_2.length c0_2, .slice A0_3 l0_3.length c0_3]) ?_ 0 _ rfl; (with_reducible repeat (first | refine blk_drewN ?_ _ | refine blk_drew ?_ | refine blk_alloc ?_ _)); exact BK270.out) hb); have n5_ := Aside0.mk (below_step (by repeat (first | (with_reducible first | exact HB.out | apply below_alloc | apply pw_below_drewN | apply below_drew1 | refine below_set ?_ GE270.out) | exact HB.out)) hb); clear HO275; clear HO278; clear BK270; clear HB; have HO275 := n0_; have HO278 := n1_; have HO283 := n2_; have HO286 := n3_; have BK270 := n4_; have HB := n5_; clear n0_ n1_ n2_ n3_ n4_ n5_; (try clear hb); (try clear hb2); (try clear hk); (try clear hi); (try clear ho0); (try clear ho1); obtain ⟨Ao118, co118, eo118⟩ := Kd.R_slice HO283.out; subst eo118; obtain ⟨Ao119, co119, eo119⟩ := Kd.S_slice HO286.out; subst eo119) | ((with_reducible refine gate_callee (f := 29) rfl ?_); refine goesL_ (some 17) rfl rfl Try.func29 (by kernel_rfl) rfl #[.agg #[.int .i64 t279, .int .i64 t280, .slice Ao118 t281.length co118, .slice Ao119 t284.length co119]] rfl (by (try simp only [List.map_toArray, List.map_cons, List.map_nil]); first | done | rfl | (simp only [List.length_drop, List.length_take]; rfl)) ?_; (with_reducible refine (reach_Left.calls t279 t280 _ _ t281 _ _ t284 t287 t290 _ ?side1 ?side2 ?side3 ?side4 A6.out).mono ?_); (case side1 => repeat (first | exact (Kd.R_reads' HO283.out).2.2 | (with_reducible refine Kd.C_alloc ?_ _) | (with_reducible refine Kd.C_drewN ?_ _) | (with_reducible refine Kd.C_drew ?_))); (case side2 => exact (Kd.R_reads' HO283.out).2.1); (case side3 => repeat (first | exact (Kd.S_reads' HO286.out).2.2 | (with_reducible refine Kd.C_alloc ?_ _) | (with_reducible refine Kd.C_drewN ?_ _) | (with_reducible refine Kd.C_drew ?_))); (case side4 => exact (Kd.S_reads' HO286.out).2.1); rintro e w120 ⟨v288, rfl, ho0, hb⟩; refine ⟨_, rfl, ?_⟩; have n0_ := Aside0.mk (Kd.R_elder' (by (with_reducible repeat (first | apply Kd.R_alloc | apply Kd.R_drewN | apply Kd.R_drew)); exact HO275.out) (Kd.R_base ho0) hb); have n1_ := Aside0.mk (Kd.S_below (by (with_reducible repeat (first | apply Kd.S_alloc | apply Kd.S_drewN | apply Kd.S_drew)); exact HO278.out) hb); have n2_ := Aside0.mk (Kd.R_elder' (by (with_reducible repeat (first | apply Kd.R_alloc | apply Kd.R_drewN | apply Kd.R_drew)); exact HO283.out) (Kd.R_base ho0) hb); have n3_ := Aside0.mk (Kd.S_below (by (with_reducible repeat (first | apply Kd.S_alloc | apply Kd.S_drewN | apply Kd.S_drew)); exact HO286.out) hb); have n4_ := Aside0.mk (Kd.R_lower (Kd.R_new' (Kd.R_new' ho0 (Kd.R_lt (by (with_reducible repeat (first | apply Kd.R_alloc | apply Kd.R_drewN | apply Kd.R_drew)); exact HO275.out))) (Kd.R_lt (by (with_reducible repeat (first | apply Kd.R_alloc | apply Kd.R_drewN | apply Kd.R_drew)); exact HO283.out))) (below_size (by repeat (first | (with_reducible first | exact HB.out | apply below_alloc | apply pw_below_drewN | apply below_drew1 | refine below_set ?_ GE270.out) | exact HB.out)))); have n5_ := Aside0.mk (blk_below (g := gb270) (o := .cells #[.int .i64 t271, .int .i64 t272, .slice Ao115 t273.length co115, .slice Ao116 t276.length co116] 25 (0, 0)) (by (with_reducible repeat (first | refine blk_drewN ?_ _ | refine blk_drew ?_ | refine blk_alloc ?_ _)); exact BK270.out) hb); have n6_ := Aside0.mk (below_step (by repeat (first | (with_reducible first | exact HB.out | apply below_alloc | apply pw_below_drewN | apply below_drew1 | refine below_set ?_ GE270.out) | exact HB.out)) hb); clear HO275; clear HO278; clear HO283; clear HO286; clear BK270; clear HB; have HO275 := n0_; have HO278 := n1_; have HO283 := n2_; have HO286 := n3_; have HO289 := n4_; have BK270 := n5_; have HB := n6_; clear n0_ n1_ n2_ n3_ n4_ n5_ n6_; (try clear hb); (try clear hb2); (try clear hk); (try clear hi); (try clear ho0); have hcz121_0 : w120.cell? ⟨gb270, 0, none⟩ = some (.int .i64 t271) := (blk_cell BK270.out 0).trans rfl; have hcz121_1 : w120.cell? ⟨gb270, 1, none⟩ = some (.int .i64 t272) := (blk_cell BK270.out 1).trans rfl; have hcz121_2 : w120.cell? ⟨gb270, 2, none⟩ = some (.slice Ao115 t273.length co115) := (blk_cell BK270.out 2).trans rfl; have hcz121_3 : w120.cell? ⟨gb270, 3, none⟩ = some (.slice Ao116 t276.length co116) := (blk_cell BK270.out 3).trans rfl; have hfz121_0 := blk_frozen BK270.out 0; have hfz121_1 := blk_frozen BK270.out 1; have hfz121_2 := blk_frozen BK270.out 2; have hfz121_3 := blk_frozen BK270.out 3) | ((with_reducible refine gate_callee (f := 23) rfl ?_); refine goesL_ (some 21) rfl rfl Try.func23 (by kernel_rfl) rfl #[.agg #[.int .i64 t271, .int .i64 t272, .slice Ao115 t273.length co115, .slice Ao116 t276.length co116]] rfl (by (try simp only [List.map_toArray, List.map_cons, List.map_nil]); first | done | rfl | (simp only [List.length_drop, List.length_take]; rfl)) ?_; (with_reducible refine (gramaryelaw11_few.calls k t271 t272 _ _ t273 _ _ t276 t291 t292 t293 t296 _ ?side1 ?side2 ?side3 ?side4 A7.out).mono ?_); (case side1 => repeat (first | exact (Kd.R_reads' HO275.out).2.2 | (with_reducible refine Kd.C_alloc ?_ _) | (with_reducible refine Kd.C_drewN ?_ _) | (with_reducible refine Kd.C_drew ?_))); (case side2 => exact (Kd.R_reads' HO275.out).2.1); (case side3 => repeat (first | exact (Kd.S_reads' HO278.out).2.2 | (with_reducible refine Kd.C_alloc ?_ _) | (with_reducible refine Kd.C_drewN ?_ _) | (with_reducible refine Kd.C_drew ?_))); (case side4 => exact (Kd.S_reads' HO278.out).2.1); rintro e w122 ⟨v294, v297, rfl, ho0, ho1, hb⟩; refine ⟨_, rfl, ?_⟩; have n0_ := Aside0.mk (Kd.R_elder' (by (with_reducible repeat (first | apply Kd.R_alloc | apply Kd.R_drewN | apply Kd.R_drew)); exact HO275.out) (Kd.R_base ho0) hb); have n1_ := Aside0.mk (Kd.S_elder' (by (with_reducible repeat (first | apply Kd.S_alloc | apply Kd.S_drewN | apply Kd.S_drew)); exact HO278.out) (Kd.S_base ho1) hb); have n2_ := Aside0.mk (Kd.R_elder' (by (with_reducible repeat (first | apply Kd.R_alloc | apply Kd.R_drewN | apply Kd.R_drew)); exact HO283.out) (Kd.R_base ho0) hb); have n3_ := Aside0.mk (Kd.S_elder' (by (with_reducible repeat (first | apply Kd.S_alloc | apply Kd.S_drewN | apply Kd.S_drew)); exact HO286.out) (Kd.S_base ho1) hb); have n4_ := Aside0.mk (Kd.R_elder' (by (with_reducible repeat (first | apply Kd.R_alloc | apply Kd.R_drewN | apply Kd.R_drew)); exact HO289.out) (Kd.R_base ho0) hb); have n5_ := Aside0.mk (Kd.R_lower (Kd.R_new' (Kd.R_new' (Kd.R_new' ho0 (Kd.R_lt (by (with_reducible repeat (first | apply Kd.R_alloc | apply Kd.R_drewN | apply Kd.R_drew)); exact HO275.out))) (Kd.R_lt (by (with_reducible repeat (first | apply Kd.R_alloc | apply Kd.R_drewN | apply Kd.R_drew)); exact HO283.out))) (Kd.R_lt (by (with_reducible repeat (first | apply Kd.R_alloc | apply Kd.R_drewN | apply Kd.R_drew)); exact HO289.out))) (below_size (by repeat (first | (with_reducible first | exact HB.out | apply below_alloc | apply pw_below_drewN | apply below_drew1 | refine below_set ?_ GE270.out) | exact HB.out)))); have n6_ := Aside0.mk (Kd.S_lower (Kd.S_new' (Kd.S_new' ho1 (Kd.S_lt (by (with_reducible repeat (first | apply Kd.S_alloc | apply Kd.S_drewN | apply Kd.S_drew)); exact HO278.out))) (Kd.S_lt (by (with_reducible repeat (first | apply Kd.S_alloc | apply Kd.S_drewN | apply Kd.S_drew)); exact HO286.out))) (below_size (by repeat (first | (with_reducible first | exact HB.out | apply below_alloc | apply pw_below_drewN | apply below_drew1 | refine below_set ?_ GE270.out) | exact HB.out)))); have n7_ := Aside0.mk (blk_below (g := gb270) (o := .cells #[.int .i64 t271, .int .i64 t272, .slice Ao115 t273.length co115, .slice Ao116 t276.length co116] 25 (0, 0)) (by (with_reducible repeat (first | refine blk_drewN ?_ _ | refine blk_drew ?_ | refine blk_alloc ?_ _)); exact BK270.out) hb); have n8_ := Aside0.mk (below_step (by repeat (first | (with_reducible first | exact HB.out | apply below_alloc | apply pw_below_drewN | apply below_drew1 | refine below_set ?_ GE270.out) | exact HB.out)) hb); clear HO275; clear HO278; clear HO283; clear HO286; clear HO289; clear BK270; clear HB; have HO275 := n0_; have HO278 := n1_; have HO283 := n2_; have HO286 := n3_; have HO289 := n4_; have HO295 := n5_; have HO298 := n6_; have BK270 := n7_; have HB := n8_; clear n0_ n1_ n2_ n3_ n4_ n5_ n6_ n7_ n8_; (try clear hb); (try clear hb2); (try clear hk); (try clear hi); (try clear ho0); (try clear ho1); obtain ⟨Ao123, co123, eo123⟩ := Kd.R_slice HO295.out; subst eo123; obtain ⟨Ao124, co124, eo124⟩ := Kd.S_slice HO298.out; subst eo124) | ((with_reducible refine gate_callee (f := 30) rfl ?_); refine goesL_ (some 24) rfl rfl Try.func30 (by kernel_rfl) rfl #[.agg #[.int .i64 t291, .int .i64 t292, .slice Ao123 t293.length co123, .slice Ao124 t296.length co124], .int .i64 a1, .int .i64 a2] rfl (by (try simp only [List.map_toArray, List.map_cons, List.map_nil]); first | done | rfl | (simp only [List.length_drop, List.length_take]; rfl)) ?_; (with_reducible refine (reach_Begins.calls t291 t292 _ _ t293 _ _ t296 a1 a2 t299 _ ?side1 ?side2 ?side3 ?side4 A8.out).mono ?_); (case side1 => repeat (first | exact (Kd.R_reads' HO295.out).2.2 | (with_reducible refine Kd.C_alloc ?_ _) | (with_reducible refine Kd.C_drewN ?_ _) | (with_reducible refine Kd.C_drew ?_))); (case side2 => exact (Kd.R_reads' HO295.out).2.1); (case side3 => repeat (first | exact (Kd.S_reads' HO298.out).2.2 | (with_reducible refine Kd.C_alloc ?_ _) | (with_reducible refine Kd.C_drewN ?_ _) | (with_reducible refine Kd.C_drew ?_))); (case side4 => exact (Kd.S_reads' HO298.out).2.1); rintro e w125 ⟨rfl, hb⟩; refine ⟨_, rfl, ?_⟩; have n0_ := Aside0.mk (Kd.R_below (by (with_reducible repeat (first | apply Kd.R_alloc | apply Kd.R_drewN | apply Kd.R_drew)); exact HO275.out) hb); have n1_ := Aside0.mk (Kd.S_below (by (with_reducible repeat (first | apply Kd.S_alloc | apply Kd.S_drewN | apply Kd.S_drew)); exact HO278.out) hb); have n2_ := Aside0.mk (Kd.R_below (by (with_reducible repeat (first | apply Kd.R_alloc | apply Kd.R_drewN | apply Kd.R_drew)); exact HO283.out) hb); have n3_ := Aside0.mk (Kd.S_below (by (with_reducible repeat (first | apply Kd.S_alloc | apply Kd.S_drewN | apply Kd.S_drew)); exact HO286.out) hb); have n4_ := Aside0.mk (Kd.R_below (by (with_reducible repeat (first | apply Kd.R_alloc | apply Kd.R_drewN | apply Kd.R_drew)); exact HO289.out) hb); have n5_ := Aside0.mk (Kd.R_below (by (with_reducible repeat (first | apply Kd.R_alloc | apply Kd.R_drewN | apply Kd.R_drew)); exact HO295.out) hb); have n6_ := Aside0.mk (Kd.S_below (by (with_reducible repeat (first | apply Kd.S_alloc | apply Kd.S_drewN | apply Kd.S_drew)); exact HO298.out) hb); have n7_ := Aside0.mk (blk_below (g := gb270) (o := .cells #[.int .i64 t271, .int .i64 t272, .slice Ao115 t273.length co115, .slice Ao116 t276.length co116] 25 (0, 0)) (by (with_reducible repeat (first | refine blk_drewN ?_ _ | refine blk_drew ?_ | refine blk_alloc ?_ _)); exact BK270.out) hb); have n8_ := Aside0.mk (below_step (by repeat (first | (with_reducible first | exact HB.out | apply below_alloc | apply pw_below_drewN | apply below_drew1 | refine below_set ?_ GE270.out) | exact HB.out)) hb); clear HO275; clear HO278; clear HO283; clear HO286; clear HO289; clear HO295; clear HO298; clear BK270; clear HB; have HO275 := n0_; have HO278 := n1_; have HO283 := n2_; have HO286 := n3_; have HO289 := n4_; have HO295 := n5_; have HO298 := n6_; have BK270 := n7_; have HB := n8_; clear n0_ n1_ n2_ n3_ n4_ n5_ n6_ n7_ n8_; (try clear hb); (try clear hb2); (try clear hk); (try clear hi); have hcz126_0 : w125.cell? ⟨gb270, 0, none⟩ = some (.int .i64 t271) := (blk_cell BK270.out 0).trans rfl; have hcz126_1 : w125.cell? ⟨gb270, 1, none⟩ = some (.int .i64 t272) := (blk_cell BK270.out 1).trans rfl; have hcz126_2 : w125.cell? ⟨gb270, 2, none⟩ = some (.slice Ao115 t273.length co115) := (blk_cell BK270.out 2).trans rfl; have hcz126_3 : w125.cell? ⟨gb270, 3, none⟩ = some (.slice Ao116 t276.length co116) := (blk_cell BK270.out 3).trans rfl; have hfz126_0 := blk_frozen BK270.out 0; have hfz126_1 := blk_frozen BK270.out 1; have hfz126_2 := blk_frozen BK270.out 2; have hfz126_3 := blk_frozen BK270.out 3) | ((with_reducible refine gate_callee (f := 12) rfl ?_); refine goesL_ (some 26) rfl rfl Try.func12 (by kernel_rfl) rfl #[.agg #[.int .i64 t271, .int .i64 t272, .slice Ao115 t273.length co115, .slice Ao116 t276.length co116]] rfl (by (try simp only [List.map_toArray, List.map_cons, List.map_nil]); first | done | rfl | (simp only [List.length_drop, List.length_take]; rfl)) ?_; (with_reducible refine (gramaryeref09_May.calls k t271 t272 _ _ t273 _ _ t276 t300 _ ?side1 ?side2 ?side3 ?side4 A9.out).mono ?_); (case side1 => repeat (first | exact (Kd.R_reads' HO275.out).2.2 | (with_reducible refine Kd.C_alloc ?_ _) | (with_reducible refine Kd.C_drewN ?_ _) | (with_reducible refine Kd.C_drew ?_))); (case side2 => exact (Kd.R_reads' HO275.out).2.1); (case side3 => repeat (first | exact (Kd.S_reads' HO278.out).2.2 | (with_reducible refine Kd.C_alloc ?_ _) | (with_reducible refine Kd.C_drewN ?_ _) | (with_reducible refine Kd.C_drew ?_))); (case side4 => exact (Kd.S_reads' HO278.out).2.1); rintro e w127 ⟨rfl, hb⟩; refine ⟨_, rfl, ?_⟩; have n0_ := Aside0.mk (Kd.R_below (by (with_reducible repeat (first | apply Kd.R_alloc | apply Kd.R_drewN | apply Kd.R_drew)); exact HO275.out) hb); have n1_ := Aside0.mk (Kd.S_below (by (with_reducible repeat (first | apply Kd.S_alloc | apply Kd.S_drewN | apply Kd.S_drew)); exact HO278.out) hb); have n2_ := Aside0.mk (Kd.R_below (by (with_reducible repeat (first | apply Kd.R_alloc | apply Kd.R_drewN | apply Kd.R_drew)); exact HO283.out) hb); have n3_ := Aside0.mk (Kd.S_below (by (with_reducible repeat (first | apply Kd.S_alloc | apply Kd.S_drewN | apply Kd.S_drew)); exact HO286.out) hb); have n4_ := Aside0.mk (Kd.R_below (by (with_reducible repeat (first | apply Kd.R_alloc | apply Kd.R_drewN | apply Kd.R_drew)); exact HO289.out) hb); have n5_ := Aside0.mk (Kd.R_below (by (with_reducible repeat (first | apply Kd.R_alloc | apply Kd.R_drewN | apply Kd.R_drew)); exact HO295.out) hb); have n6_ := Aside0.mk (Kd.S_below (by (with_reducible repeat (first | apply Kd.S_alloc | apply Kd.S_drewN | apply Kd.S_drew)); exact HO298.out) hb); have n7_ := Aside0.mk (blk_below (g := gb270) (o := .cells #[.int .i64 t271, .int .i64 t272, .slice Ao115 t273.length co115, .slice Ao116 t276.length co116] 25 (0, 0)) (by (with_reducible repeat (first | refine blk_drewN ?_ _ | refine blk_drew ?_ | refine blk_alloc ?_ _)); exact BK270.out) hb); have n8_ := Aside0.mk (below_step (by repeat (first | (with_reducible first | exact HB.out | apply below_alloc | apply pw_below_drewN | apply below_drew1 | refine below_set ?_ GE270.out) | exact HB.out)) hb); clear HO275; clear HO278; clear HO283; clear HO286; clear HO289; clear HO295; clear HO298; clear BK270; clear HB; have HO275 := n0_; have HO278 := n1_; have HO283 := n2_; have HO286 := n3_; have HO289 := n4_; have HO295 := n5_; have HO298 := n6_; have BK270 := n7_; have HB := n8_; clear n0_ n1_ n2_ n3_ n4_ n5_ n6_ n7_ n8_; (try clear hb); (try clear hb2); (try clear hk); (try clear hi); obtain ⟨Ao128, co128, eo128⟩ := Kd.R_slice HO289.out; subst eo128))
        go_ret
        exact ⟨by first | rfl | (simp [errW_none, errW_some] <;> rfl) | (simp [*, errW_none, errW_some] <;> rfl), by repeat (first | (with_reducible first | exact HB.out | apply below_alloc | apply pw_below_drewN | apply below_drew1 | refine below_set ?_ GE270.out) | exact HB.out)⟩
    · rw [if_neg c70] at H
      have c70b0 : (t290 == t300) = false := beq_eq_false_iff_ne.mpr c70
      have c70b1 : (t290 != t300) = true := bne_iff_ne.mpr c70
      obtain rfl := Option.some.inj H
      go_enter Try.func7, Try.ntmps7
      go_wp2_with (first | ((with_reducible refine gate_dst (N := 3) rfl ?_); (try (refine gate_guard (by rfl) ?_; dsimp only)); refine box_event ?hg (N := 3) ?hd (cs := #[.int .i64 a0_0, .int .i64 a0_1, .slice A0_2 l0_2.length c0_2, .slice A0_3 l0_3.length c0_3]) (t := 25) ?hr ?_; (case hd => rfl); (case hg => rfl); (case hr => first | (go_simp; done) | (go_simp; rfl)); intro gb270 hg w129 hbox hb; have n0_ := Aside0.mk (below_step (by repeat (first | (with_reducible first | exact HB.out | apply below_alloc | apply pw_below_drewN | apply below_drew1) | exact HB.out)) hb); have n1_ := Aside0.mk (hbox); have n2_ := Aside0.mk ((by rw [hg]; exact (below_size (by repeat (first | (with_reducible first | exact HB.out | apply below_alloc | apply pw_below_drewN | apply below_drew1) | exact HB.out))) : w.heap.size ≤ gb270)); have n3_ := Aside0.mk ((by rw [hg]; exact (below_size (by repeat (first | (with_reducible first | exact HB.out | apply below_alloc | apply pw_below_drewN | apply below_drew1) | exact HB.out))) : w.heap.size ≤ gb270)); clear HB; have HB := n0_; have BK270 := n1_; have GW270 := n2_; have GE270 := n3_; clear n0_ n1_ n2_ n3_; clear hb hbox hg; have hcz130_0 : w129.cell? ⟨gb270, 0, none⟩ = some (.int .i64 a0_0) := (blk_cell BK270.out 0).trans rfl; have hcz130_1 : w129.cell? ⟨gb270, 1, none⟩ = some (.int .i64 a0_1) := (blk_cell BK270.out 1).trans rfl; have hcz130_2 : w129.cell? ⟨gb270, 2, none⟩ = some (.slice A0_2 l0_2.length c0_2) := (blk_cell BK270.out 2).trans rfl; have hcz130_3 : w129.cell? ⟨gb270, 3, none⟩ = some (.slice A0_3 l0_3.length c0_3) := (blk_cell BK270.out 3).trans rfl; have hfz130_0 := blk_frozen BK270.out 0; have hfz130_1 := blk_frozen BK270.out 1; have hfz130_2 := blk_frozen BK270.out 2; have hfz130_3 := blk_frozen BK270.out 3) | ((with_reducible refine gate_callee (f := 23) rfl ?_); refine goesL_ (some 13) rfl rfl Try.func23 (by kernel_rfl) rfl #[.agg #[.int .i64 a0_0, .int .i64 a0_1, .slice A0_2 l0_2.length c0_2, .slice A0_3 l0_3.length c0_3]] rfl (by (try simp only [List.map_toArray, List.map_cons, List.map_nil]); first | done | rfl | (simp only [List.length_drop, List.length_take]; rfl)) ?_; (with_reducible refine (gramaryelaw11_few.calls k a0_0 a0_1 _ _ l0_2 _ _ l0_3 t271 t272 t273 t276 _ ?side1 ?side2 ?side3 ?side4 A4.out).mono ?_); (case side1 => repeat (first | exact (Kd.C_below HR0_2.out HB.out) | (with_reducible refine Kd.C_alloc ?_ _) | (with_reducible refine Kd.C_drewN ?_ _) | (with_reducible refine Kd.C_drew ?_))); (case side2 => exact HC0_2.out); (case side3 => repeat (first | exact (Kd.C_below HR0_3.out HB.out) | (with_reducible refine Kd.C_alloc ?_ _) | (with_reducible refine Kd.C_drewN ?_ _) | (with_reducible refine Kd.C_drew ?_))); (case side4 => exact HC0_3.out); rintro e w131 ⟨v274, v277, rfl, ho0, ho1, hb⟩; refine ⟨_, rfl, ?_⟩; have n0_ := Aside0.mk (Kd.R_lower ho0 (below_size (by repeat (first | (with_reducible first | exact HB.out | apply below_alloc | apply pw_below_drewN | apply below_drew1 | refine below_set ?_ GE270.out) | exact HB.out)))); have n1_ := Aside0.mk (Kd.S_lower ho1 (below_size (by repeat (first | (with_reducible first | exact HB.out | apply below_alloc | apply pw_below_drewN | apply below_drew1 | refine below_set ?_ GE270.out) | exact HB.out)))); have n2_ := Aside0.mk (blk_below (g := gb270) (o := .cells #[.int .i64 a0_0, .int .i64 a0_1, .slice A0_2 l0_2.length c0_2, .slice A0_3 l0_3.length c0_3] 25 (0, 0)) (by (with_reducible repeat (first | refine blk_drewN ?_ _ | refine blk_drew ?_ | refine blk_alloc ?_ _)); exact BK270.out) hb); have n3_ := Aside0.mk (below_step (by repeat (first | (with_reducible first | exact HB.out | apply below_alloc | apply pw_below_drewN | apply below_drew1 | refine below_set ?_ GE270.out) | exact HB.out)) hb); clear BK270; clear HB; have HO275 := n0_; have HO278 := n1_; have BK270 := n2_; have HB := n3_; clear n0_ n1_ n2_ n3_; (try clear hb); (try clear hb2); (try clear hk); (try clear hi); (try clear ho0); (try clear ho1); have hcz132_0 : w131.cell? ⟨gb270, 0, none⟩ = some (.int .i64 a0_0) := (blk_cell BK270.out 0).trans rfl; have hcz132_1 : w131.cell? ⟨gb270, 1, none⟩ = some (.int .i64 a0_1) := (blk_cell BK270.out 1).trans rfl; have hcz132_2 : w131.cell? ⟨gb270, 2, none⟩ = some (.slice A0_2 l0_2.length c0_2) := (blk_cell BK270.out 2).trans rfl; have hcz132_3 : w131.cell? ⟨gb270, 3, none⟩ = some (.slice A0_3 l0_3.length c0_3) := (blk_cell BK270.out 3).trans rfl; have hfz132_0 := blk_frozen BK270.out 0; have hfz132_1 := blk_frozen BK270.out 1; have hfz132_2 := blk_frozen BK270.out 2; have hfz132_3 := blk_frozen BK270.out 3; obtain ⟨Ao133, co133, eo133⟩ := Kd.R_slice HO275.out; subst eo133; obtain ⟨Ao134, co134, eo134⟩ := Kd.S_slice HO278.out; subst eo134) | ((with_reducible refine gate_callee (f := 23) rfl ?_); refine goesL_ (some 16) rfl rfl Try.func23 (by kernel_rfl) rfl #[.agg #[.int .i64 t271, .int .i64 t272, .slice Ao133 t273.length co133, .slice Ao134 t276.length co134]] rfl (by (try simp only [List.map_toArray, List.map_cons, List.map_nil]); first | done | rfl | (simp only [List.length_drop, List.length_take]; rfl)) ?_; (with_reducible refine (gramaryelaw11_few.calls k t271 t272 _ _ t273 _ _ t276 t279 t280 t281 t284 _ ?side1 ?side2 ?side3 ?side4 A5.out).mono ?_); (case side1 => refine (Kd.R_reads' (e := 3) (base := w.heap.size) (ok := fun k_ => True) (n := t273.length) (c := co133) ?_).2.2; exact (by (with_reducible repeat (first | apply Kd.R_alloc | apply Kd.R_drewN | apply Kd.R_drew)); exact (Kd.R_mono (Kd.R_far (p := ⟨gb270, 3, none⟩) (Kd.R_far (p := ⟨gb270, 2, none⟩) (Kd.R_far (p := ⟨gb270, 1, none⟩) (Kd.R_far (p := ⟨gb270, 0, none⟩) (Kd.R_types HO275.out BK270.out (by decide)) (fun _ hk => hk.2) (.int .i64 t271)) (fun _ hk => hk.2) (.int .i64 t272)) (fun _ hk => hk.2) (.slice Ao133 t273.length co133)) (fun _ hk => hk.2) (.slice Ao134 t276.length co134)) (fun _ h_ => h_.1)))); (case side2 => exact (Kd.R_reads' HO275.out).2.1); (case side3 => refine (Kd.S_reads' (e := 51) (base := w.heap.size) (ok := fun k_ => True) (n := t276.length) (c := co134) ?_).2.2; exact (by (with_reducible repeat (first | apply Kd.S_alloc | apply Kd.S_drewN | apply Kd.S_drew)); exact (Kd.S_mono (Kd.S_far (p := ⟨gb270, 3, none⟩) (Kd.S_far (p := ⟨gb270, 2, none⟩) (Kd.S_far (p := ⟨gb270, 1, none⟩) (Kd.S_far (p := ⟨gb270, 0, none⟩) (Kd.S_types HO278.out BK270.out (by decide)) (fun _ hk => hk.2) (.int .i64 t271)) (fun _ hk => hk.2) (.int .i64 t272)) (fun _ hk => hk.2) (.slice Ao133 t273.length co133)) (fun _ hk => hk.2) (.slice Ao134 t276.length co134)) (fun _ h_ => h_.1)))); (case side4 => exact (Kd.S_reads' HO278.out).2.1); rintro e w135 ⟨v282, v285, rfl, ho0, ho1, hb⟩; refine ⟨_, rfl, ?_⟩; have n0_ := Aside0.mk (Kd.R_elder' (by (with_reducible repeat (first | apply Kd.R_alloc | apply Kd.R_drewN | apply Kd.R_drew)); exact (Kd.R_mono (Kd.R_far (p := ⟨gb270, 3, none⟩) (Kd.R_far (p := ⟨gb270, 2, none⟩) (Kd.R_far (p := ⟨gb270, 1, none⟩) (Kd.R_far (p := ⟨gb270, 0, none⟩) (Kd.R_types HO275.out BK270.out (by decide)) (fun _ hk => hk.2) (.int .i64 t271)) (fun _ hk => hk.2) (.int .i64 t272)) (fun _ hk => hk.2) (.slice Ao133 t273.length co133)) (fun _ hk => hk.2) (.slice Ao134 t276.length co134)) (fun _ h_ => h_.1))) (Kd.R_base ho0) hb); have n1_ := Aside0.mk (Kd.S_elder' (by (with_reducible repeat (first | apply Kd.S_alloc | apply Kd.S_drewN | apply Kd.S_drew)); exact (Kd.S_mono (Kd.S_far (p := ⟨gb270, 3, none⟩) (Kd.S_far (p := ⟨gb270, 2, none⟩) (Kd.S_far (p := ⟨gb270, 1, none⟩) (Kd.S_far (p := ⟨gb270, 0, none⟩) (Kd.S_types HO278.out BK270.out (by decide)) (fun _ hk => hk.2) (.int .i64 t271)) (fun _ hk => hk.2) (.int .i64 t272)) (fun _ hk => hk.2) (.slice Ao133 t273.length co133)) (fun _ hk => hk.2) (.slice Ao134 t276.length co134)) (fun _ h_ => h_.1))) (Kd.S_base ho1) hb); have n2_ := Aside0.mk (Kd.R_lower (Kd.R_new' ho0 (Kd.R_lt (by (with_reducible repeat (first | apply Kd.R_alloc | apply Kd.R_drewN | apply Kd.R_drew)); exact (Kd.R_mono (Kd.R_far (p := ⟨gb270, 3, none⟩) (Kd.R_far (p := ⟨gb270, 2, none⟩) (Kd.R_far (p := ⟨gb270, 1, none⟩) (Kd.R_far (p := ⟨gb270, 0, none⟩) (Kd.R_types HO275.out BK270.out (by decide)) (fun _ hk => hk.2) (.int .i64 t271)) (fun _ hk => hk.2) (.int .i64 t272)) (fun _ hk => hk.2) (.slice Ao133 t273.length co133)) (fun _ hk => hk.2) (.slice Ao134 t276.length co134)) (fun _ h_ => h_.1))))) (below_size (by repeat (first | (with_reducible first | exact HB.out | apply below_alloc | apply pw_below_drewN | apply below_drew1 | refine below_set ?_ GE270.out) | exact HB.out)))); have n3_ := Aside0.mk (Kd.S_lower (Kd.S_new' ho1 (Kd.S_lt (by (with_reducible repeat (first | apply Kd.S_alloc | apply Kd.S_drewN | apply Kd.S_drew)); exact (Kd.S_mono (Kd.S_far (p := ⟨gb270, 3, none⟩) (Kd.S_far (p := ⟨gb270, 2, none⟩) (Kd.S_far (p := ⟨gb270, 1, none⟩) (Kd.S_far (p := ⟨gb270, 0, none⟩) (Kd.S_types HO278.out BK270.out (by decide)) (fun _ hk => hk.2) (.int .i64 t271)) (fun _ hk => hk.2) (.int .i64 t272)) (fun _ hk => hk.2) (.slice Ao133 t273.length co133)) (fun _ hk => hk.2) (.slice Ao134 t276.length co134)) (fun _ h_ => h_.1))))) (below_size (by repeat (first | (with_reducible first | exact HB.out | apply below_alloc | apply pw_below_drewN | apply below_drew1 | refine below_set ?_ GE270.out) | exact HB.out)))); have n4_ := Aside0.mk (blk_below (g := gb270) (o := .cells #[.int .i64 t271, .int .i64 t272, .slice Ao133 t273.length co133, .slice Ao134 t276.length co134] 25 (0, 0)) (by (with_reducible repeat (first | refine blk_drewN ?_ _ | refine blk_drew ?_ | refine blk_alloc ?_ _)); refine blk_put (cs := #[.int .i64 t271, .int .i64 t272, .slice Ao133 t273.length co133, .slice A0_3 l0_3.length c0_3]) ?_ 3 _ rfl; (with_reducible repeat (first | refine blk_drewN ?_ _ | refine blk_drew ?_ | refine blk_alloc ?_ _)); refine blk_put (cs := #[.int .i64 t271, .int .i64 t272, .slice A0_2 l0_2.length c0_2, .slice A0_3 l0_3.length c0_3]) ?_ 2 _ rfl; (with_reducible repeat (first | refine blk_drewN ?_ _ | refine blk_drew ?_ | refine blk_alloc ?_ _)); refine blk_put (cs := #[.int .i64 t271, .int .i64 a0_1, .slice A0_2 l0_2.length c0_2, .slice A0_3 l0_3.length c0_3]) ?_ 1 _ rfl; (with_reducible repeat (first | refine blk_drewN ?_ _ | refine blk_drew ?_ | refine blk_alloc ?_ _)); refine blk_put (cs := #[.int .i64 a0_0, .int .i64 a0_1, .slice A0_2 l0_2.length c0_2, .slice A0_3 l0_3.length c0_3]) ?_ 0 _ rfl; (with_reducible repeat (first | refine blk_drewN ?_ _ | refine blk_drew ?_ | refine blk_alloc ?_ _)); exact BK270.out) hb); have n5_ := Aside0.mk (below_step (by repeat (first | (with_reducible first | exact HB.out | apply below_alloc | apply pw_below_drewN | apply below_drew1 | refine below_set ?_ GE270.out) | exact HB.out)) hb); clear HO275; clear HO278; clear BK270; clear HB; have HO275 := n0_; have HO278 := n1_; have HO283 := n2_; have HO286 := n3_; have BK270 := n4_; have HB := n5_; clear n0_ n1_ n2_ n3_ n4_ n5_; (try clear hb); (try clear hb2); (try clear hk); (try clear hi); (try clear ho0); (try clear ho1); obtain ⟨Ao136, co136, eo136⟩ := Kd.R_slice HO283.out; subst eo136; obtain ⟨Ao137, co137, eo137⟩ := Kd.S_slice HO286.out; subst eo137) | ((with_reducible refine gate_callee (f := 29) rfl ?_); refine goesL_ (some 17) rfl rfl Try.func29 (by kernel_rfl) rfl #[.agg #[.int .i64 t279, .int .i64 t280, .slice Ao136 t281.length co136, .slice Ao137 t284.length co137]] rfl (by (try simp only [List.map_toArray, List.map_cons, List.map_nil]); first | done | rfl | (simp only [List.length_drop, List.length_take]; rfl)) ?_; (with_reducible refine (reach_Left.calls t279 t280 _ _ t281 _ _ t284 t287 t290 _ ?side1 ?side2 ?side3 ?side4 A6.out).mono ?_); (case side1 => repeat (first | exact (Kd.R_reads' HO283.out).2.2 | (with_reducible refine Kd.C_alloc ?_ _) | (with_reducible refine Kd.C_drewN ?_ _) | (with_reducible refine Kd.C_drew ?_))); (case side2 => exact (Kd.R_reads' HO283.out).2.1); (case side3 => repeat (first | exact (Kd.S_reads' HO286.out).2.2 | (with_reducible refine Kd.C_alloc ?_ _) | (with_reducible refine Kd.C_drewN ?_ _) | (with_reducible refine Kd.C_drew ?_))); (case side4 => exact (Kd.S_reads' HO286.out).2.1); rintro e w138 ⟨v288, rfl, ho0, hb⟩; refine ⟨_, rfl, ?_⟩; have n0_ := Aside0.mk (Kd.R_elder' (by (with_reducible repeat (first | apply Kd.R_alloc | apply Kd.R_drewN | apply Kd.R_drew)); exact HO275.out) (Kd.R_base ho0) hb); have n1_ := Aside0.mk (Kd.S_below (by (with_reducible repeat (first | apply Kd.S_alloc | apply Kd.S_drewN | apply Kd.S_drew)); exact HO278.out) hb); have n2_ := Aside0.mk (Kd.R_elder' (by (with_reducible repeat (first | apply Kd.R_alloc | apply Kd.R_drewN | apply Kd.R_drew)); exact HO283.out) (Kd.R_base ho0) hb); have n3_ := Aside0.mk (Kd.S_below (by (with_reducible repeat (first | apply Kd.S_alloc | apply Kd.S_drewN | apply Kd.S_drew)); exact HO286.out) hb); have n4_ := Aside0.mk (Kd.R_lower (Kd.R_new' (Kd.R_new' ho0 (Kd.R_lt (by (with_reducible repeat (first | apply Kd.R_alloc | apply Kd.R_drewN | apply Kd.R_drew)); exact HO275.out))) (Kd.R_lt (by (with_reducible repeat (first | apply Kd.R_alloc | apply Kd.R_drewN | apply Kd.R_drew)); exact HO283.out))) (below_size (by repeat (first | (with_reducible first | exact HB.out | apply below_alloc | apply pw_below_drewN | apply below_drew1 | refine below_set ?_ GE270.out) | exact HB.out)))); have n5_ := Aside0.mk (blk_below (g := gb270) (o := .cells #[.int .i64 t271, .int .i64 t272, .slice Ao133 t273.length co133, .slice Ao134 t276.length co134] 25 (0, 0)) (by (with_reducible repeat (first | refine blk_drewN ?_ _ | refine blk_drew ?_ | refine blk_alloc ?_ _)); exact BK270.out) hb); have n6_ := Aside0.mk (below_step (by repeat (first | (with_reducible first | exact HB.out | apply below_alloc | apply pw_below_drewN | apply below_drew1 | refine below_set ?_ GE270.out) | exact HB.out)) hb); clear HO275; clear HO278; clear HO283; clear HO286; clear BK270; clear HB; have HO275 := n0_; have HO278 := n1_; have HO283 := n2_; have HO286 := n3_; have HO289 := n4_; have BK270 := n5_; have HB := n6_; clear n0_ n1_ n2_ n3_ n4_ n5_ n6_; (try clear hb); (try clear hb2); (try clear hk); (try clear hi); (try clear ho0); have hcz139_0 : w138.cell? ⟨gb270, 0, none⟩ = some (.int .i64 t271) := (blk_cell BK270.out 0).trans rfl; have hcz139_1 : w138.cell? ⟨gb270, 1, none⟩ = some (.int .i64 t272) := (blk_cell BK270.out 1).trans rfl; have hcz139_2 : w138.cell? ⟨gb270, 2, none⟩ = some (.slice Ao133 t273.length co133) := (blk_cell BK270.out 2).trans rfl; have hcz139_3 : w138.cell? ⟨gb270, 3, none⟩ = some (.slice Ao134 t276.length co134) := (blk_cell BK270.out 3).trans rfl; have hfz139_0 := blk_frozen BK270.out 0; have hfz139_1 := blk_frozen BK270.out 1; have hfz139_2 := blk_frozen BK270.out 2; have hfz139_3 := blk_frozen BK270.out 3) | ((with_reducible refine gate_callee (f := 23) rfl ?_); refine goesL_ (some 21) rfl rfl Try.func23 (by kernel_rfl) rfl #[.agg #[.int .i64 t271, .int .i64 t272, .slice Ao133 t273.length co133, .slice Ao134 t276.length co134]] rfl (by (try simp only [List.map_toArray, List.map_cons, List.map_nil]); first | done | rfl | (simp only [List.length_drop, List.length_take]; rfl)) ?_; (with_reducible refine (gramaryelaw11_few.calls k t271 t272 _ _ t273 _ _ t276 t291 t292 t293 t296 _ ?side1 ?side2 ?side3 ?side4 A7.out).mono ?_); (case side1 => repeat (first | exact (Kd.R_reads' HO275.out).2.2 | (with_reducible refine Kd.C_alloc ?_ _) | (with_reducible refine Kd.C_drewN ?_ _) | (with_reducible refine Kd.C_drew ?_))); (case side2 => exact (Kd.R_reads' HO275.out).2.1); (case side3 => repeat (first | exact (Kd.S_reads' HO278.out).2.2 | (with_reducible refine Kd.C_alloc ?_ _) | (with_reducible refine Kd.C_drewN ?_ _) | (with_reducible refine Kd.C_drew ?_))); (case side4 => exact (Kd.S_reads' HO278.out).2.1); rintro e w140 ⟨v294, v297, rfl, ho0, ho1, hb⟩; refine ⟨_, rfl, ?_⟩; have n0_ := Aside0.mk (Kd.R_elder' (by (with_reducible repeat (first | apply Kd.R_alloc | apply Kd.R_drewN | apply Kd.R_drew)); exact HO275.out) (Kd.R_base ho0) hb); have n1_ := Aside0.mk (Kd.S_elder' (by (with_reducible repeat (first | apply Kd.S_alloc | apply Kd.S_drewN | apply Kd.S_drew)); exact HO278.out) (Kd.S_base ho1) hb); have n2_ := Aside0.mk (Kd.R_elder' (by (with_reducible repeat (first | apply Kd.R_alloc | apply Kd.R_drewN | apply Kd.R_drew)); exact HO283.out) (Kd.R_base ho0) hb); have n3_ := Aside0.mk (Kd.S_elder' (by (with_reducible repeat (first | apply Kd.S_alloc | apply Kd.S_drewN | apply Kd.S_drew)); exact HO286.out) (Kd.S_base ho1) hb); have n4_ := Aside0.mk (Kd.R_elder' (by (with_reducible repeat (first | apply Kd.R_alloc | apply Kd.R_drewN | apply Kd.R_drew)); exact HO289.out) (Kd.R_base ho0) hb); have n5_ := Aside0.mk (Kd.R_lower (Kd.R_new' (Kd.R_new' (Kd.R_new' ho0 (Kd.R_lt (by (with_reducible repeat (first | apply Kd.R_alloc | apply Kd.R_drewN | apply Kd.R_drew)); exact HO275.out))) (Kd.R_lt (by (with_reducible repeat (first | apply Kd.R_alloc | apply Kd.R_drewN | apply Kd.R_drew)); exact HO283.out))) (Kd.R_lt (by (with_reducible repeat (first | apply Kd.R_alloc | apply Kd.R_drewN | apply Kd.R_drew)); exact HO289.out))) (below_size (by repeat (first | (with_reducible first | exact HB.out | apply below_alloc | apply pw_below_drewN | apply below_drew1 | refine below_set ?_ GE270.out) | exact HB.out)))); have n6_ := Aside0.mk (Kd.S_lower (Kd.S_new' (Kd.S_new' ho1 (Kd.S_lt (by (with_reducible repeat (first | apply Kd.S_alloc | apply Kd.S_drewN | apply Kd.S_drew)); exact HO278.out))) (Kd.S_lt (by (with_reducible repeat (first | apply Kd.S_alloc | apply Kd.S_drewN | apply Kd.S_drew)); exact HO286.out))) (below_size (by repeat (first | (with_reducible first | exact HB.out | apply below_alloc | apply pw_below_drewN | apply below_drew1 | refine below_set ?_ GE270.out) | exact HB.out)))); have n7_ := Aside0.mk (blk_below (g := gb270) (o := .cells #[.int .i64 t271, .int .i64 t272, .slice Ao133 t273.length co133, .slice Ao134 t276.length co134] 25 (0, 0)) (by (with_reducible repeat (first | refine blk_drewN ?_ _ | refine blk_drew ?_ | refine blk_alloc ?_ _)); exact BK270.out) hb); have n8_ := Aside0.mk (below_step (by repeat (first | (with_reducible first | exact HB.out | apply below_alloc | apply pw_below_drewN | apply below_drew1 | refine below_set ?_ GE270.out) | exact HB.out)) hb); clear HO275; clear HO278; clear HO283; clear HO286; clear HO289; clear BK270; clear HB; have HO275 := n0_; have HO278 := n1_; have HO283 := n2_; have HO286 := n3_; have HO289 := n4_; have HO295 := n5_; have HO298 := n6_; have BK270 := n7_; have HB := n8_; clear n0_ n1_ n2_ n3_ n4_ n5_ n6_ n7_ n8_; (try clear hb); (try clear hb2); (try clear hk); (try clear hi); (try clear ho0); (try clear ho1); obtain ⟨Ao141, co141, eo141⟩ := Kd.R_slice HO295.out; subst eo141; obtain ⟨Ao142, co142, eo142⟩ := Kd.S_slice HO298.out; subst eo142) | ((with_reducible refine gate_callee (f := 30) rfl ?_); refine goesL_ (some 24) rfl rfl Try.func30 (by kernel_rfl) rfl #[.agg #[.int .i64 t291, .int .i64 t292, .slice Ao141 t293.length co141, .slice Ao142 t296.length co142], .int .i64 a1, .int .i64 a2] rfl (by (try simp only [List.map_toArray, List.map_cons, List.map_nil]); first | done | rfl | (simp only [List.length_drop, List.length_take]; rfl)) ?_; (with_reducible refine (reach_Begins.calls t291 t292 _ _ t293 _ _ t296 a1 a2 t299 _ ?side1 ?side2 ?side3 ?side4 A8.out).mono ?_); (case side1 => repeat (first | exact (Kd.R_reads' HO295.out).2.2 | (with_reducible refine Kd.C_alloc ?_ _) | (with_reducible refine Kd.C_drewN ?_ _) | (with_reducible refine Kd.C_drew ?_))); (case side2 => exact (Kd.R_reads' HO295.out).2.1); (case side3 => repeat (first | exact (Kd.S_reads' HO298.out).2.2 | (with_reducible refine Kd.C_alloc ?_ _) | (with_reducible refine Kd.C_drewN ?_ _) | (with_reducible refine Kd.C_drew ?_))); (case side4 => exact (Kd.S_reads' HO298.out).2.1); rintro e w143 ⟨rfl, hb⟩; refine ⟨_, rfl, ?_⟩; have n0_ := Aside0.mk (Kd.R_below (by (with_reducible repeat (first | apply Kd.R_alloc | apply Kd.R_drewN | apply Kd.R_drew)); exact HO275.out) hb); have n1_ := Aside0.mk (Kd.S_below (by (with_reducible repeat (first | apply Kd.S_alloc | apply Kd.S_drewN | apply Kd.S_drew)); exact HO278.out) hb); have n2_ := Aside0.mk (Kd.R_below (by (with_reducible repeat (first | apply Kd.R_alloc | apply Kd.R_drewN | apply Kd.R_drew)); exact HO283.out) hb); have n3_ := Aside0.mk (Kd.S_below (by (with_reducible repeat (first | apply Kd.S_alloc | apply Kd.S_drewN | apply Kd.S_drew)); exact HO286.out) hb); have n4_ := Aside0.mk (Kd.R_below (by (with_reducible repeat (first | apply Kd.R_alloc | apply Kd.R_drewN | apply Kd.R_drew)); exact HO289.out) hb); have n5_ := Aside0.mk (Kd.R_below (by (with_reducible repeat (first | apply Kd.R_alloc | apply Kd.R_drewN | apply Kd.R_drew)); exact HO295.out) hb); have n6_ := Aside0.mk (Kd.S_below (by (with_reducible repeat (first | apply Kd.S_alloc | apply Kd.S_drewN | apply Kd.S_drew)); exact HO298.out) hb); have n7_ := Aside0.mk (blk_below (g := gb270) (o := .cells #[.int .i64 t271, .int .i64 t272, .slice Ao133 t273.length co133, .slice Ao134 t276.length co134] 25 (0, 0)) (by (with_reducible repeat (first | refine blk_drewN ?_ _ | refine blk_drew ?_ | refine blk_alloc ?_ _)); exact BK270.out) hb); have n8_ := Aside0.mk (below_step (by repeat (first | (with_reducible first | exact HB.out | apply below_alloc | apply pw_below_drewN | apply below_drew1 | refine below_set ?_ GE270.out) | exact HB.out)) hb); clear HO275; clear HO278; clear HO283; clear HO286; clear HO289; clear HO295; clear HO298; clear BK270; clear HB; have HO275 := n0_; have HO278 := n1_; have HO283 := n2_; have HO286 := n3_; have HO289 := n4_; have HO295 := n5_; have HO298 := n6_; have BK270 := n7_; have HB := n8_; clear n0_ n1_ n2_ n3_ n4_ n5_ n6_ n7_ n8_; (try clear hb); (try clear hb2); (try clear hk); (try clear hi); have hcz144_0 : w143.cell? ⟨gb270, 0, none⟩ = some (.int .i64 t271) := (blk_cell BK270.out 0).trans rfl; have hcz144_1 : w143.cell? ⟨gb270, 1, none⟩ = some (.int .i64 t272) := (blk_cell BK270.out 1).trans rfl; have hcz144_2 : w143.cell? ⟨gb270, 2, none⟩ = some (.slice Ao133 t273.length co133) := (blk_cell BK270.out 2).trans rfl; have hcz144_3 : w143.cell? ⟨gb270, 3, none⟩ = some (.slice Ao134 t276.length co134) := (blk_cell BK270.out 3).trans rfl; have hfz144_0 := blk_frozen BK270.out 0; have hfz144_1 := blk_frozen BK270.out 1; have hfz144_2 := blk_frozen BK270.out 2; have hfz144_3 := blk_frozen BK270.out 3) | ((with_reducible refine gate_callee (f := 12) rfl ?_); refine goesL_ (some 26) rfl rfl Try.func12 (by kernel_rfl) rfl #[.agg #[.int .i64 t271, .int .i64 t272, .slice Ao133 t273.length co133, .slice Ao134 t276.length co134]] rfl (by (try simp only [List.map_toArray, List.map_cons, List.map_nil]); first | done | rfl | (simp only [List.length_drop, List.length_take]; rfl)) ?_; (with_reducible refine (gramaryeref09_May.calls k t271 t272 _ _ t273 _ _ t276 t300 _ ?side1 ?side2 ?side3 ?side4 A9.out).mono ?_); (case side1 => repeat (first | exact (Kd.R_reads' HO275.out).2.2 | (with_reducible refine Kd.C_alloc ?_ _) | (with_reducible refine Kd.C_drewN ?_ _) | (with_reducible refine Kd.C_drew ?_))); (case side2 => exact (Kd.R_reads' HO275.out).2.1); (case side3 => repeat (first | exact (Kd.S_reads' HO278.out).2.2 | (with_reducible refine Kd.C_alloc ?_ _) | (with_reducible refine Kd.C_drewN ?_ _) | (with_reducible refine Kd.C_drew ?_))); (case side4 => exact (Kd.S_reads' HO278.out).2.1); rintro e w145 ⟨rfl, hb⟩; refine ⟨_, rfl, ?_⟩; have n0_ := Aside0.mk (Kd.R_below (by (with_reducible repeat (first | apply Kd.R_alloc | apply Kd.R_drewN | apply Kd.R_drew)); exact HO275.out) hb); have n1_ := Aside0.mk (Kd.S_below (by (with_reducible repeat (first | apply Kd.S_alloc | apply Kd.S_drewN | apply Kd.S_drew)); exact HO278.out) hb); have n2_ := Aside0.mk (Kd.R_below (by (with_reducible repeat (first | apply Kd.R_alloc | apply Kd.R_drewN | apply Kd.R_drew)); exact HO283.out) hb); have n3_ := Aside0.mk (Kd.S_below (by (with_reducible repeat (first | apply Kd.S_alloc | apply Kd.S_drewN | apply Kd.S_drew)); exact HO286.out) hb); have n4_ := Aside0.mk (Kd.R_below (by (with_reducible repeat (first | apply Kd.R_alloc | apply Kd.R_drewN | apply Kd.R_drew)); exact HO289.out) hb); have n5_ := Aside0.mk (Kd.R_below (by (with_reducible repeat (first | apply Kd.R_alloc | apply Kd.R_drewN | apply Kd.R_drew)); exact HO295.out) hb); have n6_ := Aside0.mk (Kd.S_below (by (with_reducible repeat (first | apply Kd.S_alloc | apply Kd.S_drewN | apply Kd.S_drew)); exact HO298.out) hb); have n7_ := Aside0.mk (blk_below (g := gb270) (o := .cells #[.int .i64 t271, .int .i64 t272, .slice Ao133 t273.length co133, .slice Ao134 t276.length co134] 25 (0, 0)) (by (with_reducible repeat (first | refine blk_drewN ?_ _ | refine blk_drew ?_ | refine blk_alloc ?_ _)); exact BK270.out) hb); have n8_ := Aside0.mk (below_step (by repeat (first | (with_reducible first | exact HB.out | apply below_alloc | apply pw_below_drewN | apply below_drew1 | refine below_set ?_ GE270.out) | exact HB.out)) hb); clear HO275; clear HO278; clear HO283; clear HO286; clear HO289; clear HO295; clear HO298; clear BK270; clear HB; have HO275 := n0_; have HO278 := n1_; have HO283 := n2_; have HO286 := n3_; have HO289 := n4_; have HO295 := n5_; have HO298 := n6_; have BK270 := n7_; have HB := n8_; clear n0_ n1_ n2_ n3_ n4_ n5_ n6_ n7_ n8_; (try clear hb); (try clear hb2); (try clear hk); (try clear hi)))
      go_ret
      exact ⟨by first | rfl | (simp [errW_none, errW_some] <;> rfl) | (simp [*, errW_none, errW_some] <;> rfl), by repeat (first | (with_reducible first | exact HB.out | apply below_alloc | apply pw_below_drewN | apply below_drew1 | refine below_set ?_ GE270.out) | exact HB.out)⟩
end Go.Proofs.Ytmpdilifoblnaaa.MReachLeft
end
section
namespace Go.Proofs.Ytmpdilifoblnaaa.MReachLeft
open Go.RowKit Go.Proofs.YtmpdilifoblnaaaW.PrintWords Go.Proofs.Ytmpdilifoblnaaa.Reads
set_option linter.unusedVariables false
def Good59 (x : S59) : Prop := (True) ∧ ((Lit.int .i64 x.f1).wf = true)
theorem fits59 : Fits Try.prog k59 Good59 59 :=
  fits_iso (fun x : S59 => (x.f0, x.f1)) (fun x_ => ⟨x_.1, x_.2⟩) (fun _ => rfl) (fits_struct Try.underlying59 (by kernel_rfl) (fitsF_cons 0 (fits_bool Try.prog Try.underlying4) rfl (by kernel_rfl) (fitsF_one 1 (fits_int Try.prog .i64 Try.underlying3) rfl (by kernel_rfl))))
def Good51 (x : S51) : Prop := ((Lit.int .i64 x.f0).wf = true) ∧ (x.f1.length * 16 ≤ 140737488351232 ∧ x.f1.length ≤ 9223372036854775807 ∧ ∀ x_ ∈ x.f1, Good59 x_)
theorem fits51 : Fits Try.prog k51 Good51 51 :=
  fits_iso (fun x : S51 => (x.f0, x.f1)) (fun x_ => ⟨x_.1, x_.2⟩) (fun _ => rfl) (fits_struct Try.underlying51 (by kernel_rfl) (fitsF_cons 0 (fits_int Try.prog .i64 Try.underlying3) rfl (by kernel_rfl) (fitsF_one 1 (fits_slice 59 16 Try.underlying38 (by kernel_rfl) (by kernel_rfl) fits59) rfl (by kernel_rfl))))
def gramaryelaw11_ReachLeft.PureG : Prop := ∀ (a0_0 : Int) (a0_1 : Int) (l0_2 : List Int) (l0_3 : List (S51)) (a1 : Int) (a2 : Int), ((Lit.int .i64 a0_0).wf = true) → ((Lit.int .i64 a0_1).wf = true) → (l0_2.length * 8 ≤ 140737488351232 ∧ l0_2.length ≤ 9223372036854775807 ∧ ∀ x_ ∈ l0_2, (Lit.int .i64 x_).wf = true) → (l0_3.length * 32 ≤ 140737488351232 ∧ l0_3.length ≤ 9223372036854775807 ∧ ∀ x_ ∈ l0_3, Good51 x_) → ((Lit.int .i64 a1).wf = true) → ((Lit.int .i64 a2).wf = true) → ∃ k, gramaryelaw11_ReachLeft.f k a0_0 a0_1 l0_2 l0_3 a1 a2 = some true
end Go.Proofs.Ytmpdilifoblnaaa.MReachLeft
end
section
namespace Go.Proofs.Ytmpdilifoblnaaa.Pure
open Go.RowKit Go.Proofs.Ytmpdilifoblnaaa.MReachLeft Go.Proofs.YtmpdilifoblnaaaW.PrintWords Go.Proofs.YtmpdilifoblnaaaW.PrintLast Go.Proofs.YtmpdilifoblnaaaW.PrintMore Go.Proofs.Ytmpdilifoblnaaa.Base Go.Proofs.Ytmpdilifoblnaaa.Fix Go.Proofs.Ytmpdilifoblnaaa.Mem
set_option linter.unusedSimpArgs false
set_option linter.unusedVariables false
theorem rd51 (L : List S51) (i : Nat) (h : i < L.length) : rd_T51 L (i : Int) = L[i] := by
  unfold rd_T51
  rw [Int.toNat_natCast, List.getD_eq_getElem?_getD, List.getElem?_eq_getElem h]; rfl
theorem rd59 (L : List S59) (i : Nat) (h : i < L.length) : rd_T59 L (i : Int) = L[i] := by
  unfold rd_T59
  rw [Int.toNat_natCast, List.getD_eq_getElem?_getD, List.getElem?_eq_getElem h]; rfl
theorem w1 (i : Nat) (h : i < 1000000000) : wrap64 ((i : Int) + 1) = ((i + 1 : Nat) : Int) := by rw [w64 (by omega) (by omega)]; omega
theorem mn_nat (a b : Nat) : mn (a : Int) (b : Int) = ((min a b : Nat) : Int) := by unfold mn; split <;> omega
def cut8 (p : S51) : S51 := ⟨p.f0, p.f1.take 8⟩
theorem few_l0 (P : Nat) (hP : P ≤ 1000) (t l : Int) (o o' : List Int) (L : List S51) (d : Nat) : ∀ (k i : Nat) (acc : List S51), i + d = min P L.length → d < k → acc = (L.take i).map cut8 →
    gramaryeref09_Few.l0 k (P : Int) (i : Int) t l o L t l o' acc = some (t, l, o', (L.take P).map cut8) := by
  induction d with
  | zero =>
    intro k i acc h1 h2 h3
    obtain ⟨k, rfl⟩ : ∃ m, k = m + 1 := ⟨k - 1, by omega⟩
    have e : L.take i = L.take P := by
      rcases Nat.le_total P L.length with h | h
      · rw [show i = P by omega]
      · rw [List.take_of_length_le (by omega), List.take_of_length_le (by omega)]
    rw [gramaryeref09_Few.l0]
    by_cases hi : (i : Int) < (L.length : Int)
    · rw [if_pos hi, if_neg (by omega), h3, e]
    · rw [if_neg hi, h3, e]
  | succ d ih =>
    intro k i acc h1 h2 h3
    obtain ⟨k, rfl⟩ : ∃ m, k = m + 1 := ⟨k - 1, by omega⟩
    have hi : i < L.length := by omega
    have hal : acc.length = i := by rw [h3, List.length_map, List.length_take]; omega
    have hm : mn ((L[i].f1.length : Nat) : Int) 8 = ((min L[i].f1.length 8 : Nat) : Int) := mn_nat _ 8
    have ht : L[i].f1.take (min L[i].f1.length 8) = L[i].f1.take 8 := by
      rcases Nat.le_total L[i].f1.length 8 with h | h
      · rw [Nat.min_eq_left h, List.take_of_length_le (Nat.le_refl _), List.take_of_length_le h]
      · rw [Nat.min_eq_right h]
    rw [gramaryeref09_Few.l0, if_pos (by omega), if_pos (by omega), if_pos (by omega), rd51 L i hi]
    simp only [Option.bind_some]
    rw [hm, if_pos (by omega), if_pos (by omega)]
    simp only [Option.bind_some, Int.toNat_natCast, List.length_nil, List.nil_append]
    have hl8 : (L[i].f1.take (min L[i].f1.length 8)).length ≤ 8 := by rw [List.length_take]; omega
    rw [if_pos (by omega), if_pos (by omega), w1 i (by omega), ht]
    refine ih k (i + 1) _ (by omega) (by omega) ?_
    rw [List.take_succ_eq_append_getElem hi, List.map_append, h3]
    rfl
theorem ints_is (l : List Int) (h : l.length ≤ 1000000) : gramaryebase_Ints.f l = some l := by
  unfold gramaryebase_Ints.f
  simp only [Option.bind_some, List.nil_append]
  rw [if_pos (by simp only [List.length_nil]; omega)]
theorem few_is (N P : Nat) (hN : N ≤ 1000) (hP : P ≤ 1000) (t l : Int) (o : List Int) (L : List S51) (k : Nat) (hk : P < k) :
    gramaryeref09_Few.f k t l o L (N : Int) (P : Int) = some (t, l, o.take N, (L.take P).map cut8) := by
  unfold gramaryeref09_Few.f
  rw [mn_nat, if_pos (by omega), if_pos (by omega)]
  simp only [Int.toNat_natCast]
  have ht : o.take (min o.length N) = o.take N := by
    rcases Nat.le_total o.length N with h | h
    · rw [Nat.min_eq_left h, List.take_of_length_le (Nat.le_refl _), List.take_of_length_le h]
    · rw [Nat.min_eq_right h]
  rw [ht, ints_is _ (by rw [List.length_take]; omega)]
  simp only [Option.bind_some]
  exact few_l0 P hP t l o (o.take N) L (min P L.length) k 0 [] (by omega) (by omega) rfl
theorem cut8_cut8 (p : S51) : cut8 (cut8 p) = cut8 p := by unfold cut8; simp only [List.take_take, Nat.min_self]
theorem few_again (P : Nat) (L : List S51) : (((L.take P).map cut8).take P).map cut8 = (L.take P).map cut8 := by
  rw [List.take_of_length_le (by simp; omega), List.map_map]
  congr 1
  funext p
  exact cut8_cut8 p
structure Small (N P : Nat) (o : List Int) (L : List S51) : Prop where
  o : o.length ≤ N
  l : L.length ≤ P
  r : ∀ p ∈ L, p.f1.length ≤ 8
theorem few_small (N P : Nat) (o : List Int) (L : List S51) : Small N P (o.take N) ((L.take P).map cut8) :=
  ⟨by rw [List.length_take]; omega, by simp; omega, fun p hp => by
    obtain ⟨q, _, rfl⟩ := List.mem_map.1 hp
    unfold cut8; simp; omega⟩
theorem may_l2 (t l : Int) (o : List Int) (L : List S51) (pos : Int) (x0 : Int) (r : List S59) (hr : r.length ≤ 1000) (d : Nat) : ∀ (k i : Nat), i + d = r.length →
    gramaryeref09_May.l2 (k + d + 1) pos (i : Int) t l o L x0 r = if (r.drop i).any (fun s => !bnf_symB t o.length s) = true then some 4 else gramaryeref09_May.l1 k (wrap64 (pos + 1)) t l o L := by
  induction d with
  | zero =>
    intro k i h1
    rw [gramaryeref09_May.l2, if_neg (by omega), List.drop_of_length_le (by omega)]
    rfl
  | succ d ih =>
    intro k i h1
    have hi : i < r.length := by omega
    have hs := rd59 r i hi
    have ih' := ih k (i + 1) (by omega)
    rw [show k + (d + 1) + 1 = (k + d + 1) + 1 by omega, gramaryeref09_May.l2, if_pos (by omega), if_pos (by omega), hs, w1 i (by omega), ih', List.drop_eq_getElem_cons hi, List.any_cons]
    generalize (List.drop (i + 1) r).any (fun s => !bnf_symB t o.length s) = q
    obtain ⟨tok, x⟩ := r[i]
    unfold bnf_symB
    cases tok with
    | true =>
      simp only [if_true]
      by_cases h1 : x < 1
      · rw [if_pos h1, decide_eq_false (by omega)]; simp
      · rw [if_neg h1]
        by_cases h2 : x > t
        · rw [if_pos h2, decide_eq_false (by omega)]; simp
        · rw [if_neg h2, decide_eq_true (by omega)]; simp
    | false =>
      simp only [Bool.false_eq_true, if_false]
      by_cases h1 : x < 0
      · rw [if_pos h1, decide_eq_false (by omega)]; simp
      · rw [if_neg h1]
        by_cases h2 : x ≥ (o.length : Int)
        · rw [if_pos h2, decide_eq_false (by omega)]; simp
        · rw [if_neg h2, decide_eq_true (by omega)]; simp
theorem may_l1 (t l : Int) (o : List Int) (L : List S51) (hL : L.length ≤ 1000) (hr : ∀ p ∈ L, p.f1.length ≤ 8) (d : Nat) : ∀ (k i : Nat), i + d = L.length → 12 * d < k →
    gramaryeref09_May.l1 k (i : Int) t l o L = some (if (L.drop i).any (fun p => !bnf_prodB t o.length p) = true then 4 else 0) := by
  induction d with
  | zero =>
    intro k i h1 h2
    obtain ⟨k, rfl⟩ : ∃ m, k = m + 1 := ⟨k - 1, by omega⟩
    rw [gramaryeref09_May.l1, if_neg (by omega), List.drop_of_length_le (by omega)]
    rfl
  | succ d ih =>
    intro k i h1 h2
    have hi : i < L.length := by omega
    have hp8 := hr L[i] (List.getElem_mem hi)
    obtain ⟨k, rfl⟩ : ∃ m, k = m + L[i].f1.length + 1 + 2 := ⟨k - (L[i].f1.length + 3), by omega⟩
    rw [gramaryeref09_May.l1, if_pos (by omega), if_pos (by omega), rd51 L i hi, List.drop_eq_getElem_cons hi, List.any_cons]
    have hl2 := may_l2 t l o L (i : Int) L[i].f0 L[i].f1 (by omega) L[i].f1.length k 0 (by omega)
    rw [w1 i (by omega), ih k (i + 1) (by omega) (by omega), List.drop_zero, show ((0 : Nat) : Int) = 0 from rfl] at hl2
    by_cases h0 : L[i].f0 < 0
    · have e : bnf_prodB t o.length L[i] = false := by unfold bnf_prodB; rw [decide_eq_false (by omega)]; rfl
      rw [if_pos h0, gramaryeref09_May.j4, if_pos rfl, e]; rfl
    · rw [if_neg h0, gramaryeref09_May.j4]
      by_cases h3 : L[i].f0 ≥ (o.length : Int)
      · have e : bnf_prodB t o.length L[i] = false := by unfold bnf_prodB; rw [decide_eq_false (show ¬ L[i].f0 < (o.length : Int) by omega)]; simp
        rw [if_pos (decide_eq_true h3), e]; rfl
      · have e : bnf_prodB t o.length L[i] = !(L[i].f1.any (fun s => !bnf_symB t o.length s)) := by
          unfold bnf_prodB
          rw [decide_eq_true (show 0 ≤ L[i].f0 by omega), decide_eq_true (show L[i].f0 < (o.length : Int) by omega), Bool.true_and, Bool.true_and]
        rw [if_neg (by simpa using h3), hl2, e]
        cases hq : L[i].f1.any (fun s => !bnf_symB t o.length s)
        · rfl
        · rfl
theorem may_l0 (t l : Int) (o : List Int) (L : List S51) (hL : L.length ≤ 1000) (hr : ∀ p ∈ L, p.f1.length ≤ 8) (d : Nat) : ∀ (k i : Nat), i + d = L.length → d + 12 * L.length + 3 < k →
    gramaryeref09_May.l0 k (i : Int) t l o L = some (if ¬ (1 ≤ l ∧ l ≤ 4) then 11 else if L.any (fun p => !bnf_prodB t o.length p) = true then 4 else 0) := by
  induction d with
  | zero =>
    intro k i h1 h2
    obtain ⟨k, rfl⟩ : ∃ m, k = m + 2 := ⟨k - 2, by omega⟩
    have hl1 := may_l1 t l o L hL hr L.length k 0 (by omega) (by omega)
    rw [List.drop_zero, show ((0 : Nat) : Int) = 0 from rfl] at hl1
    rw [gramaryeref09_May.l0, if_neg (by omega)]
    by_cases h : l < 1
    · rw [if_pos h, gramaryeref09_May.j2, if_pos rfl, if_pos (by omega)]
    · rw [if_neg h, gramaryeref09_May.j2]
      by_cases h4 : l > 4
      · rw [if_pos (decide_eq_true h4), if_pos (by omega)]
      · rw [if_neg (by simpa using h4), hl1, if_neg (show ¬ ¬ (1 ≤ l ∧ l ≤ 4) by omega)]
  | succ d ih =>
    intro k i h1 h2
    obtain ⟨k, rfl⟩ : ∃ m, k = m + 1 := ⟨k - 1, by omega⟩
    have hi : i < L.length := by omega
    have hp8 := hr L[i] (List.getElem_mem hi)
    rw [gramaryeref09_May.l0, if_pos (by omega), if_pos (by omega), rd51 L i hi, if_neg (by omega), w1 i (by omega)]
    exact ih k (i + 1) (by omega) (by omega)
theorem may_is {N P : Nat} (hN : N ≤ 400) (hP : P ≤ 1000) (t l : Int) (o : List Int) (L : List S51) (h : Small N P o L) (k : Nat) (hk : 20000 ≤ k) : gramaryeref09_May.f k t l o L = some (bnf_mayB t l o L) := by
  have hl := h.l
  have ho := h.o
  obtain ⟨k, rfl⟩ : ∃ m, k = m + 1 := ⟨k - 1, by omega⟩
  have h0 := may_l0 t l o L (by omega) h.r L.length k 0 (by omega) (by omega)
  rw [show ((0 : Nat) : Int) = 0 from rfl] at h0
  have hlong : ¬ (L.any bnf_longB = true) := by
    intro e
    obtain ⟨p, hp, hq⟩ := List.any_eq_true.1 e
    have := h.r p hp
    unfold bnf_longB at hq
    simp at hq
    omega
  unfold gramaryeref09_May.f bnf_mayB
  by_cases a1 : t < 1
  · rw [if_pos a1, gramaryeref09_May.j0, if_pos rfl, if_pos (.inl (by omega))]
  rw [if_neg a1]
  by_cases a2 : t > 60
  · rw [if_pos a2, gramaryeref09_May.j0, if_pos rfl, if_pos (.inl (by omega))]
  rw [if_neg a2]
  by_cases a3 : (o.length : Int) < 1
  · rw [if_pos a3, gramaryeref09_May.j0, if_pos rfl, if_pos (.inr (.inl (by omega)))]
  rw [if_neg a3, if_neg (by omega)]
  by_cases a4 : (L.length : Int) < 1
  · rw [if_pos a4, gramaryeref09_May.j0, if_pos rfl, if_pos (.inr (.inr (.inl (by omega))))]
  have hno : ¬ (¬ (1 ≤ t ∧ t ≤ 60) ∨ ¬ (1 ≤ o.length ∧ o.length ≤ 500) ∨ ¬ (1 ≤ L.length ∧ L.length ≤ 2000) ∨ L.any bnf_longB = true) := by
    rintro (h | h | h | h)
    · omega
    · omega
    · omega
    · exact hlong h
  rw [if_neg a4, gramaryeref09_May.j0, if_neg (by simp; omega), h0, if_neg hno]
theorem mem_occS {i n m : Int} {l : List S59} : (n, m) ∈ occS i l ↔ m = i ∧ ∃ s ∈ l, s.f0 = false ∧ s.f1 = n := by
  unfold occS
  rw [List.mem_map]
  constructor
  · rintro ⟨s, hs, e⟩
    rw [List.mem_filter] at hs
    simp only [Prod.mk.injEq] at e
    exact ⟨e.2.symm, s, hs.1, by simpa using hs.2, e.1⟩
  · rintro ⟨rfl, s, hs, h0, rfl⟩
    exact ⟨s, List.mem_filter.2 ⟨hs, by simp [h0]⟩, rfl⟩
theorem mem_occ {n m : Int} : ∀ (L : List S51) (i : Int), (n, m) ∈ occ i L ↔ ∃ j : Nat, ∃ h : j < L.length, m = i + j ∧ ∃ s ∈ (L[j]).f1, s.f0 = false ∧ s.f1 = n
  | [], i => by simp [occ]
  | p :: ps, i => by
    simp only [occ, List.mem_append, mem_occS, mem_occ ps (i + 1)]
    constructor
    · rintro (⟨rfl, h⟩ | ⟨j, hj, rfl, h⟩)
      · exact ⟨0, by simp, by omega, h⟩
      · exact ⟨j + 1, by simp; omega, by omega, h⟩
    · rintro ⟨j, hj, rfl, h⟩
      cases j with
      | zero => exact .inl ⟨by omega, h⟩
      | succ j => exact .inr ⟨j, by simp at hj; omega, by omega, h⟩
theorem mem_whoOf {L : List S51} {n m : Int} : m ∈ whoOf (occ 0 L) n ↔ ∃ j : Nat, ∃ h : j < L.length, m = (j : Int) ∧ ∃ s ∈ (L[j]).f1, s.f0 = false ∧ s.f1 = n := by
  unfold whoOf
  rw [List.mem_map]
  constructor
  · rintro ⟨⟨a, b⟩, h, rfl⟩
    rw [List.mem_filter] at h
    have e : a = n := by simpa using h.2
    subst e
    obtain ⟨j, hj, e, hs⟩ := (mem_occ L 0).1 h.1
    exact ⟨j, hj, by simpa using e, hs⟩
  · rintro ⟨j, hj, rfl, hs⟩
    exact ⟨(n, (j : Int)), List.mem_filter.2 ⟨(mem_occ L 0).2 ⟨j, hj, by omega, hs⟩, by simp⟩, rfl⟩
theorem whoOf_len (o : List (Int × Int)) (n : Int) : (whoOf o n).length ≤ o.length := by
  unfold whoOf
  rw [List.length_map]
  exact List.length_filter_le _ _
def InP (n : Nat) (L : List S51) : Prop := ∀ p ∈ L, 0 ≤ p.f0 ∧ p.f0 < (n : Int) ∧ ∀ s ∈ p.f1, SymOk n s
theorem may_inN {t l : Int} {o : List Int} {L : List S51} (h : bnf_mayB t l o L = 0) : InP o.length L := fun p hp =>
  ⟨((bnf_may_ok h).2.2.2 p hp).2.1, ((bnf_may_ok h).2.2.2 p hp).2.2.1, ((bnf_may_ok h).2.2.2 p hp).2.2.2⟩
def isOf (tok : Bool) (s : S59) (m : List Bool) : Bool := if s.f0 = true then tok else rdOf false m s.f1
theorem is_nothing : isNothing = isOf false := by
  funext s m
  unfold isNothing isOf
  cases s.f0 <;> simp
def stB (m : List Bool) : Nat → Nat := fun i => if m.getD i false = true then 0 else 1
def okU (tok : Bool) (u : Nat → Nat) (s : S59) : Bool := if s.f0 = true then tok else decide (u s.f1.toNat = 0)
def valB (tok : Bool) (l : List S59) (u : Nat → Nat) : Nat := if l.all (okU tok u) = true then 0 else 1
def psB (tok : Bool) (L : List S51) : List Pr := L.map fun p => (p.f0.toNat, valB tok p.f1)
theorem psB_length (tok : Bool) (L : List S51) : (psB tok L).length = L.length := by simp [psB]
theorem psB_get (tok : Bool) (L : List S51) (i : Nat) (h : i < L.length) (h' : i < (psB tok L).length) : (psB tok L)[i] = (L[i].f0.toNat, valB tok L[i].f1) := by simp [psB]
theorem getD_rdB (m : List Bool) (x : Int) : m.getD x.toNat false = rdOf false m x := rfl
theorem ok_is (tok : Bool) (m : List Bool) (s : S59) : okU tok (stB m) s = isOf tok s m := by
  unfold okU isOf stB
  rw [getD_rdB]
  by_cases h : s.f0 = true
  · rw [if_pos h, if_pos h]
  · rw [if_neg h, if_neg h]
    cases rdOf false m s.f1 <;> rfl
theorem valB_is (tok : Bool) (l : List S59) (m : List Bool) : valB tok l (stB m) = if l.any (fun s => !isOf tok s m) = true then 1 else 0 := by
  unfold valB
  have e : l.all (okU tok (stB m)) = !(l.any fun s => !isOf tok s m) := by
    rw [List.all_eq_not_any_not]
    congr 2
    funext s
    rw [ok_is]
  rw [e]
  cases l.any (fun s => !isOf tok s m) <;> rfl
theorem valB_mono (tok : Bool) (l : List S59) : Mono1 (valB tok l) := by
  intro u u' h
  unfold valB
  by_cases a : l.all (okU tok u') = true
  · rw [if_pos a, if_pos]
    · exact Nat.le_refl _
    rw [List.all_eq_true] at a ⊢
    intro s hs
    have := a s hs
    unfold okU at this ⊢
    by_cases ht : s.f0 = true
    · rw [if_pos ht] at this ⊢; exact this
    · rw [if_neg ht] at this ⊢
      have hu := h s.f1.toNat
      simp only [decide_eq_true_eq] at this ⊢
      omega
  · rw [if_neg a]
    split <;> omega
theorem allB_upd (tok : Bool) (u : Nat → Nat) (x y : Nat) (l : List S59) (h : ∀ s ∈ l, s.f0 = false → s.f1.toNat ≠ x) : l.all (okU tok (upd u x y)) = l.all (okU tok u) := by
  rw [Bool.eq_iff_iff, List.all_eq_true, List.all_eq_true]
  have e : ∀ s ∈ l, okU tok (upd u x y) s = okU tok u s := by
    intro s hs
    unfold okU
    by_cases ht : s.f0 = true
    · rw [if_pos ht, if_pos ht]
    · have := h s hs (by simpa using ht)
      rw [if_neg ht, if_neg ht, show upd u x y s.f1.toNat = u s.f1.toNat by unfold upd; rw [if_neg this]]
  exact ⟨fun a s hs => by rw [← e s hs]; exact a s hs, fun a s hs => by rw [e s hs]; exact a s hs⟩
theorem stB_set {m : List Bool} {x : Int} (h0 : 0 ≤ x) (h1 : x < (m.length : Int)) : stB (m.set x.toNat true) = upd (stB m) x.toNat 0 := by
  funext j
  have g : (m.set x.toNat true).getD j false = if x.toNat = j then true else m.getD j false := by
    rw [List.getD_eq_getElem?_getD, List.getD_eq_getElem?_getD, List.getElem?_set]
    by_cases e : x.toNat = j
    · subst e
      rw [if_pos rfl, if_pos rfl, if_pos (by omega)]; rfl
    · rw [if_neg e, if_neg e]
  show (if (m.set x.toNat true).getD j false = true then 0 else 1) = (if j = x.toNat then 0 else (if m.getD j false = true then 0 else 1))
  rw [g]
  by_cases e : x.toNat = j
  · rw [if_pos e, if_pos rfl, if_pos e.symm]
  · rw [if_neg e, if_neg (show ¬ j = x.toNat from fun h => e h.symm)]
def u0B : Nat → Nat := fun _ => 1
theorem stB_init (n : Nat) : stB (List.replicate n false) = u0B := by
  funext j
  unfold stB u0B
  rw [List.getD_eq_getElem?_getD, List.getElem?_replicate]
  split <;> rfl
theorem impB (tok : Bool) (l : List S59) (m : List Bool) (x : Int) : valB tok l (stB m) < stB m x.toNat ↔ rdOf false m x = false ∧ l.any (fun s => !isOf tok s m) = false := by
  rw [valB_is]
  unfold stB
  rw [getD_rdB]
  cases l.any (fun s => !isOf tok s m) <;> cases rdOf false m x <;> simp
theorem marks_ok (tok : Bool) {t l : Int} {o : List Int} {L : List S51} (hm : bnf_mayB t l o L = 0) (hs : Small 40 60 o L) :
    ∃ m, empty_marksF (isOf tok) t l o L = some (m, 0) ∧ m.length = o.length ∧ Above (psB tok L) u0B (stB m) ∧ Stable (psB tok L) (stB m) := by
  have hin := may_inN hm
  have hocc : (occ 0 L).length ≤ 500 * L.length := occ_len L 0 (fun p hp => by have := hs.r p hp; omega)
  have hl := hs.l
  have ho := hs.o
  have key : ∃ r, growG (isOf tok) (occ 0 L) L (L.length + o.length * (occ 0 L).length + 1) (List.replicate o.length false) (upTo L.length) = some r ∧ r.length = o.length ∧ Above (psB tok L) u0B (stB r) ∧ Stable (psB tok L) (stB r) := by
    refine work_ends (growG (isOf tok) (occ 0 L) L) stB (fun m => m.length = o.length) (psB tok L) (fun x => whoOf (occ 0 L) (x : Int)) o.length (occ 0 L).length 17592186044416 u0B ?_ ?_ ?_ ?_ ?_ ?_ ?_ _ _ _ ?_ ?_ ?_ ?_ ?_ ?_
    · intro p hp
      obtain ⟨q, _, rfl⟩ := List.mem_map.1 hp
      exact valB_mono tok q.f1
    · intro p hp
      obtain ⟨q, hq, rfl⟩ := List.mem_map.1 hp
      have := hin q hq
      show q.f0.toNat < o.length
      omega
    · intro x
      refine ⟨whoOf_len _ _, fun j hj => ?_⟩
      obtain ⟨j, hj, rfl, _⟩ := mem_whoOf.1 hj
      rw [psB_length]
      omega
    · intro j hj u x y hno
      have hj' : j < L.length := by rwa [psB_length] at hj
      rw [psB_get tok L j hj' hj]
      show valB tok _ _ = valB tok _ _
      unfold valB
      rw [allB_upd tok u x y L[j].f1 (fun s hs h0 e => hno (mem_whoOf.2 ⟨j, hj', rfl, s, hs, h0, by
        have := (hin _ (List.getElem_mem hj')).2.2 s hs h0
        omega⟩))]
    · intro k s; rfl
    · intro k m i hi rest hv himp
      have hi' : i < L.length := by rwa [psB_length] at hi
      rw [psB_get tok L i hi' hi] at himp
      obtain ⟨a0, a1, a2⟩ := hin _ (List.getElem_mem hi')
      simp only at himp
      rw [impB] at himp
      rw [growG, rd51 L i hi', if_pos ⟨by omega, by omega, a0, by omega⟩]
      cases h1 : rdOf false m L[i].f0 with
      | true => rw [if_pos rfl]
      | false =>
        rw [if_neg (by decide)]
        cases h2 : L[i].f1.any (fun s => !isOf tok s m) with
        | true => rw [if_pos rfl]
        | false => exact absurd ⟨h1, h2⟩ himp
    · intro k m i hi rest hv himp hroom
      have hi' : i < L.length := by rwa [psB_length] at hi
      rw [psB_get tok L i hi' hi] at himp hroom ⊢
      obtain ⟨a0, a1, a2⟩ := hin _ (List.getElem_mem hi')
      simp only at himp hroom ⊢
      have himp' := himp
      rw [impB] at himp
      rw [show ((L[i].f0.toNat : Nat) : Int) = L[i].f0 by omega] at hroom ⊢
      refine ⟨m.set L[i].f0.toNat true, by rw [List.length_set]; exact hv, ?_, ?_⟩
      · rw [stB_set a0 (by omega), valB_is, himp.2]; rfl
      · rw [growG, rd51 L i hi', if_pos ⟨by omega, by omega, a0, by omega⟩, himp.1, himp.2, if_neg (by decide), if_neg (by decide), if_pos hroom]
    · simp
    · rw [stB_init]; exact Above.init _ _
    · intro j hj
      unfold upTo at hj
      obtain ⟨i, hi, rfl⟩ := List.mem_map.1 hj
      rw [List.mem_range] at hi
      rw [psB_length]
      show 0 ≤ (i : Int) ∧ (i : Int) < _
      omega
    · intro j hj _
      rw [psB_length] at hj
      unfold upTo
      exact List.mem_map.2 ⟨j, List.mem_range.2 hj, rfl⟩
    · rw [upTo_length, stB_init]
      have h1 := tot_le (u := u0B) (b := 1) (fun i => Nat.le_refl _) o.length
      have h2 := Nat.mul_le_mul_right (occ 0 L).length h1
      rw [Nat.mul_one] at h2
      omega
    · have h3 : o.length * (occ 0 L).length ≤ 40 * 30000 := Nat.mul_le_mul ho (by omega)
      omega
  obtain ⟨r, h1, h2⟩ := key
  refine ⟨r, ?_, h2⟩
  unfold empty_marksF
  rw [if_pos hm, h1]
  rfl
theorem stateB_eq {v v' : List Bool} (hl : v.length = v'.length) (e : ∀ i, stB v i = stB v' i) : v = v' := by
  apply List.ext_getElem hl
  intro i h1 h2
  have := e i
  unfold stB at this
  rw [List.getD_eq_getElem?_getD, List.getD_eq_getElem?_getD, List.getElem?_eq_getElem h1, List.getElem?_eq_getElem h2] at this
  simp only [Option.getD_some] at this
  cases h3 : v[i] <;> cases h4 : v'[i] <;> simp [h3, h4] at this ⊢
theorem row_ref (tok : Bool) (l : List S59) (m : List Bool) (hl : l.length ≤ 1000) (hs : ∀ s ∈ l, SymOk m.length s) (d : Nat) : ∀ (k i : Nat), i + d = l.length → d < k →
    gramaryeref10_row.l0 k l tok m (i : Int) = some (!((l.drop i).any fun s => !isOf tok s m)) := by
  induction d with
  | zero =>
    intro k i h1 h2
    obtain ⟨k, rfl⟩ : ∃ m, k = m + 1 := ⟨k - 1, by omega⟩
    rw [gramaryeref10_row.l0, if_neg (by omega), List.drop_of_length_le (by omega)]
    rfl
  | succ d ih =>
    intro k i h1 h2
    obtain ⟨k, rfl⟩ : ∃ m, k = m + 1 := ⟨k - 1, by omega⟩
    have hi : i < l.length := by omega
    have hk := hs _ (List.getElem_mem hi)
    rw [gramaryeref10_row.l0, if_pos (by omega), if_pos (by omega), rd59 l i hi, w1 i (by omega), ih k (i + 1) (by omega) (by omega), List.drop_eq_getElem_cons hi, List.any_cons]
    generalize (List.drop (i + 1) l).any (fun s => !isOf tok s m) = q
    generalize l[i] = s at hk
    unfold isOf
    by_cases ht : s.f0 = true
    · rw [if_pos ht, if_pos ht, if_pos ht]
      cases tok <;> simp
    · obtain ⟨h3, h4⟩ := hk (by simpa using ht)
      rw [if_neg ht, if_neg ht, if_neg ht, if_pos h3, if_pos h4]
      cases rdOf false m s.f1 <;> simp
section
variable (tok : Bool) (t l : Int) (o : List Int) (L : List S51)
theorem ev_mark {v r : List Bool} {more : Bool} {i : Nat} (hi : i < L.length) (hL : L.length ≤ 1000) (hr8 : L[i].f1.length ≤ 8) (h0 : 0 ≤ L[i].f0) (h1 : L[i].f0 < (v.length : Int)) (hs : ∀ s ∈ L[i].f1, SymOk v.length s)
    (h : Ev (fun k => if rdOf false v L[i].f0 = false ∧ L[i].f1.any (fun s => !isOf tok s v) = false then gramaryeref10_mark.l1 k tok (v.set L[i].f0.toNat true) true ((i + 1 : Nat) : Int) t l o L else gramaryeref10_mark.l1 k tok v more ((i + 1 : Nat) : Int) t l o L) r) :
    Ev (fun k => gramaryeref10_mark.l1 k tok v more (i : Int) t l o L) r := by
  obtain ⟨K, hK⟩ := h
  refine ⟨K + 1010, fun k hk => ?_⟩
  obtain ⟨k, rfl⟩ : ∃ m, k = m + 1 := ⟨k - 1, by omega⟩
  have e := hK k (by omega)
  have hrow := row_ref tok L[i].f1 v (by omega) hs L[i].f1.length k 0 (by omega) (by omega)
  rw [List.drop_zero, show ((0 : Nat) : Int) = 0 from rfl] at hrow
  show gramaryeref10_mark.l1 (k + 1) tok v more (i : Int) t l o L = some r
  simp only at e
  rw [gramaryeref10_mark.l1, if_pos (by omega), if_pos (by omega), rd51 L i hi, if_pos h0, if_pos h1, w1 i (by omega)]
  cases hb : rdOf false v L[i].f0 with
  | true =>
    rw [hb, if_neg (by rintro ⟨h, _⟩; cases h)] at e
    rw [if_pos rfl]; exact e
  | false =>
    rw [if_neg (by decide), show gramaryeref10_row.f k L[i].f1 tok v = _ from hrow]
    simp only [Option.bind_some]
    cases hq : L[i].f1.any (fun s => !isOf tok s v) with
    | true =>
      rw [hq, if_neg (by rintro ⟨_, h⟩; cases h)] at e
      rw [if_neg (by decide)]; exact e
    | false =>
      rw [hb, hq, if_pos ⟨rfl, rfl⟩] at e
      rw [if_pos (by decide)]; exact e
end
theorem ref_marks (tok : Bool) {t l : Int} {o : List Int} {L : List S51} (hm : bnf_mayB t l o L = 0) (hs : Small 40 60 o L) :
    ∃ v, Ev (fun k => gramaryeref10_mark.f k t l o L tok) v ∧ v.length = o.length ∧ Above (psB tok L) u0B (stB v) ∧ Stable (psB tok L) (stB v) := by
  have hin := may_inN hm
  have hl := hs.l
  have ho := hs.o
  have key : ∃ r, Ev (fun k => gramaryeref10_mark.l0 k tok (List.replicate o.length false) true t l o L) r ∧ r.length = o.length ∧ Above (psB tok L) u0B (stB r) ∧ Stable (psB tok L) (stB r) := by
    refine sweeps_end (fun k s b => gramaryeref10_mark.l0 k tok s b t l o L) (fun k s b i => gramaryeref10_mark.l1 k tok s b (i : Int) t l o L) stB (fun v => v.length = o.length) (psB tok L) o.length u0B ?_ ?_ ?_ ?_ ?_ ?_ ?_ _ _ ?_ ?_ (Nat.le_refl _)
    · intro p hp
      obtain ⟨q, _, rfl⟩ := List.mem_map.1 hp
      exact valB_mono tok q.f1
    · intro p hp
      obtain ⟨q, hq, rfl⟩ := List.mem_map.1 hp
      have := hin q hq
      show q.f0.toNat < o.length
      omega
    · intro s r h
      exact Ev.step (fun k => by rw [gramaryeref10_mark.l0, if_pos rfl]; rfl) h
    · intro s
      refine ⟨1, fun k hk => ?_⟩
      obtain ⟨k, rfl⟩ : ∃ m, k = m + 1 := ⟨k - 1, by omega⟩
      show gramaryeref10_mark.l0 (k + 1) tok s false t l o L = some s
      rw [gramaryeref10_mark.l0, if_neg (by decide)]
    · intro v more i hi r hv himp h
      have hi' : i < L.length := by rwa [psB_length] at hi
      rw [psB_get tok L i hi' hi] at himp
      obtain ⟨a0, a1, a2⟩ := hin _ (List.getElem_mem hi')
      simp only at himp
      rw [impB] at himp
      refine ev_mark tok t l o L hi' (by omega) (hs.r _ (List.getElem_mem hi')) a0 (by omega) (by rw [hv]; exact a2) ?_
      refine Ev.congr (fun k => ?_) h
      rw [if_neg himp]
    · intro v more i hi hv himp
      have hi' : i < L.length := by rwa [psB_length] at hi
      rw [psB_get tok L i hi' hi] at himp ⊢
      obtain ⟨a0, a1, a2⟩ := hin _ (List.getElem_mem hi')
      simp only at himp ⊢
      rw [impB] at himp
      refine ⟨v.set L[i].f0.toNat true, by rw [List.length_set]; exact hv, ?_, fun r h => ?_⟩
      · rw [stB_set a0 (by omega), valB_is, himp.2]; rfl
      · refine ev_mark tok t l o L hi' (by omega) (hs.r _ (List.getElem_mem hi')) a0 (by omega) (by rw [hv]; exact a2) ?_
        refine Ev.congr (fun k => ?_) h
        rw [if_pos himp]
    · intro s more r h
      rw [psB_length]
      exact Ev.step (fun k => by rw [gramaryeref10_mark.l1, if_neg (by omega)]) h
    · simp
    · rw [stB_init]; exact Above.init _ _
  obtain ⟨r, h1, h2⟩ := key
  refine ⟨r, Ev.congr (fun k => ?_) h1, h2⟩
  unfold gramaryeref10_mark.f
  rw [if_pos (by omega), if_pos (by omega), Int.toNat_natCast]
def lay (l : List (List Int)) (first : List Int) : Nat → Int → Prop
  | 0, x => x ∈ first
  | d + 1, x => ∃ a, lay l first d a ∧ x ∈ l.getD a.toNat []
theorem lay_congr {l : List (List Int)} {f g : List Int} (h : ∀ x, x ∈ f ↔ x ∈ g) : ∀ d x, lay l f d x ↔ lay l g d x
  | 0, x => h x
  | d + 1, x => ⟨fun ⟨a, h1, h2⟩ => ⟨a, (lay_congr h d a).1 h1, h2⟩, fun ⟨a, h1, h2⟩ => ⟨a, (lay_congr h d a).2 h1, h2⟩⟩
def bfs (l : List (List Int)) : Nat → List Bool → List (Int × Int) → Option (List (Int × Int))
  | 0, _, _ => none
  | _ + 1, _, [] => some []
  | k + 1, m, x :: r => (bfs l k (walkPut (l.getD x.1.toNat []) x.1 (m, r)).1 (walkPut (l.getD x.1.toNat []) x.1 (m, r)).2).map (x :: ·)
def stopAt {σ : Type} (tell : σ → Int → Int → σ × Bool) : List (Int × Int) → σ → σ
  | [], st => st
  | x :: r, st => if (tell st x.1 x.2).2 = true then stopAt tell r (tell st x.1 x.2).1 else (tell st x.1 x.2).1
theorem walk_bfs {σ : Type} (l : List (List Int)) (tell : σ → Int → Int → σ × Bool) : ∀ (k : Nat) (m : List Bool) (q : List (Int × Int)) (st : σ) (tr : List (Int × Int)), bfs l k m q = some tr → walkL l tell k m q st = some (stopAt tell tr st)
  | 0, _, _, _, _, h => by simp [bfs] at h
  | k + 1, m, [], st, tr, h => by rw [bfs] at h; injection h with h; subst h; rfl
  | k + 1, m, x :: r, st, tr, h => by
    rw [bfs] at h
    obtain ⟨t, ht, rfl⟩ := Option.map_eq_some_iff.1 h
    rw [walkL, stopAt]
    by_cases c : (tell st x.1 x.2).2 = true
    · rw [if_pos c, if_pos c]; exact walk_bfs l tell k _ _ _ _ ht
    · rw [if_neg c, if_neg c]
def nodes (A : List (Int × Int)) : List Int := A.map (·.1)
theorem nodes_app (A B : List (Int × Int)) : nodes (A ++ B) = nodes A ++ nodes B := by simp [nodes]
theorem mem_nodes {A : List (Int × Int)} {p : Int × Int} (h : p ∈ A) : p.1 ∈ nodes A := List.mem_map.2 ⟨p, h, rfl⟩
theorem of_nodes {A : List (Int × Int)} {x : Int} (h : x ∈ nodes A) : ∃ p ∈ A, p.1 = x := List.mem_map.1 h
theorem nodup_le : ∀ (n : Nat) (l : List Int), l.Nodup → (∀ x ∈ l, 0 ≤ x ∧ x < (n : Int)) → l.length ≤ n
  | 0, l, _, h => by
    cases l with
    | nil => simp
    | cons x r => have := h x List.mem_cons_self; omega
  | n + 1, l, hn, h => by
    by_cases hm : (n : Int) ∈ l
    · have h1 := nodup_le n (l.erase (n : Int)) (hn.erase _) (fun x hx => by
        have h2 := (hn.mem_erase_iff).1 hx
        have := h x h2.2
        have h3 := h2.1
        omega)
      rw [List.length_erase_of_mem hm] at h1
      omega
    · have := nodup_le n l hn (fun x hx => by
        have h2 := h x hx
        have : x ≠ (n : Int) := fun e => hm (e ▸ hx)
        omega)
      omega
structure BInv (l : List (List Int)) (first : List Int) (F : Int → Prop) (R : Int → Int → Prop) (T q : List (Int × Int)) (m : List Bool) (lv : Int → Nat) (c : Nat) : Prop where
  len : m.length = l.length
  inn : ∀ p ∈ T ++ q, 0 ≤ p.1 ∧ p.1 < (l.length : Int)
  seen : ∀ x, 0 ≤ x → (rdOf false m x = true ↔ x ∈ nodes (T ++ q))
  nodup : (nodes (T ++ q)).Nodup
  ent : ∀ p ∈ T ++ q, (p.2 = -1 ∧ p.1 ∈ first ∧ lv p.1 = 0) ∨ (p.2 ∈ nodes T ∧ p.1 ∈ l.getD p.2.toNat [] ∧ lv p.1 = lv p.2 + 1)
  rows : ∀ a x, R a x → a ∈ nodes T ∧ x ∈ nodes (T ++ q) ∧ lv x ≤ lv a + 1
  fst : ∀ x, F x → x ∈ nodes (T ++ q) ∧ lv x = 0
  srt : (nodes (T ++ q)).Pairwise (fun a b => lv a ≤ lv b)
  rng : ∀ p ∈ q, c ≤ lv p.1 ∧ lv p.1 ≤ c + 1
  told : ∀ p ∈ T, lv p.1 ≤ c
section
variable {l : List (List Int)} {first : List Int} {F : Int → Prop} {R : Int → Int → Prop} {T q : List (Int × Int)} {m : List Bool} {lv : Int → Nat} {c : Nat}
theorem rd_set (m : List Bool) (x y : Int) (x0 : 0 ≤ x) (x1 : x < (m.length : Int)) (y0 : 0 ≤ y) : rdOf false (m.set x.toNat true) y = if y = x then true else rdOf false m y := by
  unfold rdOf
  rw [List.getD_eq_getElem?_getD, List.getD_eq_getElem?_getD, List.getElem?_set]
  by_cases e : y = x
  · subst e
    rw [if_pos rfl, if_pos rfl, if_pos (by omega)]; rfl
  · rw [if_neg e, if_neg (by omega)]
theorem BInv.put (h : BInv l first F R T q m lv c) {x b : Int} {v : Nat} (x0 : 0 ≤ x) (x1 : x < (l.length : Int)) (hb : (b = -1 ∧ x ∈ first ∧ v = 0) ∨ (b ∈ nodes T ∧ x ∈ l.getD b.toNat [] ∧ v = lv b + 1)) (hv : ∀ p ∈ q, lv p.1 ≤ v) (hv1 : c ≤ v) (hv2 : v ≤ c + 1) :
    ∃ lv', BInv l first F R T (putF (m, q) x b).2 (putF (m, q) x b).1 lv' c ∧ x ∈ nodes (T ++ (putF (m, q) x b).2) ∧ lv' x ≤ v ∧ (∀ y ∈ nodes (T ++ q), lv' y = lv y ∧ y ∈ nodes (T ++ (putF (m, q) x b).2)) ∧ (∀ p ∈ (putF (m, q) x b).2, p ∈ q ∨ lv' p.1 = v) := by
  unfold putF
  by_cases hs : rdOf false m x = true
  · rw [if_pos hs]
    have hx := (h.seen x x0).1 hs
    refine ⟨lv, h, hx, ?_, fun y hy => ⟨rfl, hy⟩, fun p hp => .inl hp⟩
    obtain ⟨p, hp, rfl⟩ := of_nodes hx
    rcases List.mem_append.1 hp with hp | hp
    · have := h.told p hp; omega
    · exact hv p hp
  · rw [if_neg hs]
    have hx : x ∉ nodes (T ++ q) := fun e => hs ((h.seen x x0).2 e)
    have hne : ∀ y ∈ nodes (T ++ q), (if y = x then v else lv y) = lv y := fun y hy => if_neg (fun e : y = x => hx (e ▸ hy))
    have hT : ∀ y ∈ nodes T, y ∈ nodes (T ++ q) := fun y hy => by rw [nodes_app]; exact List.mem_append_left _ hy
    have hq : ∀ p ∈ q, p.1 ∈ nodes (T ++ q) := fun p hp => mem_nodes (List.mem_append_right _ hp)
    have happ : T ++ (q ++ [(x, b)]) = (T ++ q) ++ [(x, b)] := by rw [List.append_assoc]
    refine ⟨fun y => if y = x then v else lv y, ⟨?_, ?_, ?_, ?_, ?_, ?_, ?_, ?_, ?_, ?_⟩, ?_, by simp, fun y hy => ⟨hne y hy, by rw [happ, nodes_app]; exact List.mem_append_left _ hy⟩, fun p hp => ?_⟩
    · rw [List.length_set]; exact h.len
    · intro p hp
      rw [happ] at hp
      rcases List.mem_append.1 hp with hp | hp
      · exact h.inn p hp
      · obtain rfl := List.mem_singleton.1 hp
        exact ⟨x0, x1⟩
    · intro y y0
      rw [rd_set m x y x0 (by rw [h.len]; exact x1) y0, happ, nodes_app, List.mem_append]
      by_cases e : y = x
      · rw [if_pos e]
        exact ⟨fun _ => .inr (by rw [e]; simp [nodes]), fun _ => rfl⟩
      · rw [if_neg e, h.seen y y0]
        exact ⟨.inl, fun h' => h'.elim id fun h' => absurd (by simpa [nodes] using h') e⟩
    · rw [happ, nodes_app]
      exact List.nodup_append.2 ⟨h.nodup, by simp [nodes], fun a ha b' hb' e => by
        have : b' = x := by simpa [nodes] using hb'
        exact hx (by rw [← this, ← e]; exact ha)⟩
    · intro p hp
      rw [happ] at hp
      rcases List.mem_append.1 hp with hp | hp
      · rw [hne _ (mem_nodes hp)]
        rcases h.ent p hp with h1 | ⟨h1, h2, h3⟩
        · exact .inl h1
        · exact .inr ⟨h1, h2, by rw [hne _ (hT _ h1)]; exact h3⟩
      · obtain rfl := List.mem_singleton.1 hp
        simp only [if_pos]
        rcases hb with h1 | ⟨h1, h2, h3⟩
        · exact .inl h1
        · exact .inr ⟨h1, h2, by rw [hne _ (hT _ h1)]; exact h3⟩
    · intro a y hr
      obtain ⟨h1, h2, h3⟩ := h.rows a y hr
      refine ⟨h1, by rw [happ, nodes_app]; exact List.mem_append_left _ h2, ?_⟩
      rw [hne _ h2, hne _ (hT _ h1)]; exact h3
    · intro y hf
      obtain ⟨h1, h2⟩ := h.fst y hf
      exact ⟨by rw [happ, nodes_app]; exact List.mem_append_left _ h1, by rw [hne _ h1]; exact h2⟩
    · rw [happ, nodes_app]
      refine List.pairwise_append.2 ⟨?_, by simp [nodes], ?_⟩
      · refine List.Pairwise.imp_of_mem ?_ h.srt
        intro a b' ha hb' hab
        rw [hne _ ha, hne _ hb']; exact hab
      · intro a ha b' hb'
        have e : b' = x := by simpa [nodes] using hb'
        rw [hne _ ha, e, if_pos rfl]
        obtain ⟨p, hp, rfl⟩ := of_nodes ha
        rcases List.mem_append.1 hp with hp | hp
        · have := h.told p hp; omega
        · exact hv p hp
    · intro p hp
      rcases List.mem_append.1 hp with hp | hp
      · rw [hne _ (hq p hp)]; exact h.rng p hp
      · obtain rfl := List.mem_singleton.1 hp
        simp only [if_pos]
        exact ⟨hv1, hv2⟩
    · intro p hp
      rw [hne _ (hT _ (mem_nodes hp))]; exact h.told p hp
    · rw [happ, nodes_app]; exact List.mem_append_right _ (by simp [nodes])
    · rcases List.mem_append.1 hp with hp | hp
      · exact .inl hp
      · obtain rfl := List.mem_singleton.1 hp
        exact .inr (by simp)
theorem BInv.more {F' : Int → Prop} {R' : Int → Int → Prop} (h : BInv l first F R T q m lv c) (hR : ∀ a x, R' a x → R a x ∨ (a ∈ nodes T ∧ x ∈ nodes (T ++ q) ∧ lv x ≤ lv a + 1)) (hF : ∀ x, F' x → F x ∨ (x ∈ nodes (T ++ q) ∧ lv x = 0)) : BInv l first F' R' T q m lv c :=
  ⟨h.len, h.inn, h.seen, h.nodup, h.ent, fun a x hr => (hR a x hr).elim (h.rows a x) id, fun x hf => (hF x hf).elim (h.fst x) id, h.srt, h.rng, h.told⟩
theorem BInv.putRow {a : Int} : ∀ (xs : List Int) (R : Int → Int → Prop) (q : List (Int × Int)) (m : List Bool) (lv : Int → Nat), BInv l first F R T q m lv c → a ∈ nodes T → lv a = c → (∀ x ∈ xs, 0 ≤ x ∧ x < (l.length : Int) ∧ x ∈ l.getD a.toNat []) →
    ∃ lv', BInv l first F (fun b x => R b x ∨ (b = a ∧ x ∈ xs)) T (walkPut xs a (m, q)).2 (walkPut xs a (m, q)).1 lv' c
  | [], R, q, m, lv, h, ha, hc, hx => ⟨lv, h.more (fun b x hr => hr.elim .inl fun h => by cases h.2) (fun x hf => .inl hf)⟩
  | x :: xs, R, q, m, lv, h, ha, hc, hx => by
    obtain ⟨x0, x1, x2⟩ := hx x List.mem_cons_self
    obtain ⟨lv1, h1, h2, h3, h4, _⟩ := h.put x0 x1 (.inr ⟨ha, x2, rfl⟩) (fun p hp => by have := h.rng p hp; omega) (by omega) (by omega)
    have haq : a ∈ nodes (T ++ q) := by rw [nodes_app]; exact List.mem_append_left _ ha
    have hla : lv1 a = lv a := (h4 a haq).1
    have h1' := h1.more (F' := F) (R' := fun b y => R b y ∨ (b = a ∧ y = x)) (fun b y hr => hr.elim .inl fun ⟨e1, e2⟩ => .inr (by subst e1 e2; exact ⟨ha, h2, by omega⟩)) (fun x hf => .inl hf)
    obtain ⟨lv2, h5⟩ := BInv.putRow xs _ _ _ lv1 h1' ha (by omega) (fun y hy => hx y (List.mem_cons_of_mem _ hy))
    exact ⟨lv2, h5.more (fun b y hr => .inl (by
      rcases hr with hr | ⟨e1, hr⟩
      · exact .inl (.inl hr)
      · rcases List.mem_cons.1 hr with e2 | hr
        · exact .inl (.inr ⟨e1, e2⟩)
        · exact .inr ⟨e1, hr⟩)) (fun x hf => .inl hf)⟩
theorem BInv.putFirst : ∀ (xs : List Int) (F : Int → Prop) (q : List (Int × Int)) (m : List Bool) (lv : Int → Nat), BInv l first F R [] q m lv 0 → (∀ p ∈ q, lv p.1 = 0) → (∀ x ∈ xs, 0 ≤ x ∧ x < (l.length : Int) ∧ x ∈ first) →
    ∃ lv', BInv l first (fun x => F x ∨ x ∈ xs) R [] (walkPut xs (-1) (m, q)).2 (walkPut xs (-1) (m, q)).1 lv' 0
  | [], F, q, m, lv, h, h0, hx => ⟨lv, h.more (fun b x hr => .inl hr) (fun x hf => hf.elim .inl fun h => by cases h)⟩
  | x :: xs, F, q, m, lv, h, h0, hx => by
    obtain ⟨x0, x1, x2⟩ := hx x List.mem_cons_self
    obtain ⟨lv1, h1, h2, h3, h4, h5⟩ := h.put x0 x1 (.inl ⟨rfl, x2, rfl⟩) (fun p hp => by have := h0 p hp; omega) (Nat.le_refl _) (by omega)
    have h1' := h1.more (F' := fun y => F y ∨ y = x) (R' := R) (fun b y hr => .inl hr) (fun y hf => hf.elim .inl fun e => .inr (by subst e; exact ⟨h2, by omega⟩))
    obtain ⟨lv2, h6⟩ := BInv.putFirst xs _ _ _ lv1 h1' (fun p hp => by
      rcases h5 p hp with h | h
      · rw [(h4 p.1 (mem_nodes (by simpa using h))).1]; exact h0 p h
      · exact h) (fun y hy => hx y (List.mem_cons_of_mem _ hy))
    exact ⟨lv2, h6.more (fun b y hr => .inl hr) (fun y hr => .inl (by
      rcases hr with hr | hr
      · exact .inl (.inl hr)
      · rcases List.mem_cons.1 hr with e2 | hr
        · exact .inl (.inr e2)
        · exact .inr hr))⟩
theorem BInv.pop {a b : Int} {r : List (Int × Int)} (h : BInv l first F R T ((a, b) :: r) m lv c) : BInv l first F R (T ++ [(a, b)]) r m lv (lv a) := by
  have e : (T ++ [(a, b)]) ++ r = T ++ (a, b) :: r := by simp
  have hT : ∀ y ∈ nodes T, y ∈ nodes (T ++ [(a, b)]) := fun y hy => by rw [nodes_app]; exact List.mem_append_left _ hy
  have h0 := h.rng (a, b) List.mem_cons_self
  refine ⟨h.len, by rw [e]; exact h.inn, by rw [e]; exact h.seen, by rw [e]; exact h.nodup, ?_, ?_, by rw [e]; exact h.fst, by rw [e]; exact h.srt, ?_, ?_⟩
  · rw [e]
    exact fun p hp => (h.ent p hp).elim .inl fun h1 => .inr ⟨hT _ h1.1, h1.2⟩
  · rw [e]
    exact fun a' x hr => ⟨hT _ (h.rows a' x hr).1, (h.rows a' x hr).2⟩
  · intro p hp
    have h1 := h.rng p (List.mem_cons_of_mem _ hp)
    have h2 := h.srt
    rw [nodes_app] at h2
    have h3 := (List.pairwise_append.1 h2).2.1
    have h4 := List.rel_of_pairwise_cons h3 (a' := p.1) (mem_nodes hp)
    simp only at h0 h1 h4 ⊢
    omega
  · intro p hp
    rcases List.mem_append.1 hp with hp | hp
    · have := h.told p hp
      simp only at h0
      omega
    · obtain rfl := List.mem_singleton.1 hp
      exact Nat.le_refl _
end
structure BFin (l : List (List Int)) (first : List Int) (A : List (Int × Int)) (lv : Int → Nat) : Prop where
  inn : ∀ p ∈ A, 0 ≤ p.1 ∧ p.1 < (l.length : Int)
  nodup : (nodes A).Nodup
  ent : ∀ p ∈ A, (p.2 = -1 ∧ p.1 ∈ first ∧ lv p.1 = 0) ∨ (p.2 ∈ nodes A ∧ p.1 ∈ l.getD p.2.toNat [] ∧ lv p.1 = lv p.2 + 1)
  rows : ∀ a ∈ nodes A, ∀ x ∈ l.getD a.toNat [], x ∈ nodes A ∧ lv x ≤ lv a + 1
  fst : ∀ x ∈ first, x ∈ nodes A ∧ lv x = 0
  srt : (nodes A).Pairwise (fun a b => lv a ≤ lv b)
theorem bfs_go {l : List (List Int)} {first : List Int} (hl : InN l.length l) : ∀ (k : Nat) (R : Int → Int → Prop) (T q : List (Int × Int)) (m : List Bool) (lv : Int → Nat) (c : Nat), BInv l first (fun x => x ∈ first) R T q m lv c → (∀ p ∈ T, ∀ x ∈ l.getD p.1.toNat [], R p.1 x) → l.length < k + T.length →
    ∃ tr lv', bfs l k m q = some tr ∧ BFin l first (T ++ tr) lv'
  | 0, R, T, q, m, lv, c, h, hR, hk => by
    have h1 : (nodes T).Nodup := by have := h.nodup; rw [nodes_app] at this; exact (List.nodup_append.1 this).1
    have := nodup_le l.length (nodes T) h1 (fun x hx => by obtain ⟨p, hp, rfl⟩ := of_nodes hx; exact h.inn p (List.mem_append_left _ hp))
    simp [nodes] at this
    omega
  | k + 1, R, T, [], m, lv, c, h, hR, hk => by
    refine ⟨[], lv, rfl, ?_⟩
    have e : T ++ [] = T := List.append_nil T
    refine ⟨h.inn, h.nodup, by rw [e]; have := h.ent; rwa [e] at this, fun a ha x hx => ?_, h.fst, h.srt⟩
    rw [e] at ha
    obtain ⟨p, hp, rfl⟩ := of_nodes ha
    exact (h.rows _ x (hR p hp x hx)).2
  | k + 1, R, T, (a, b) :: r, m, lv, c, h, hR, hk => by
    have h1 := h.pop
    have ha : a ∈ nodes (T ++ [(a, b)]) := by rw [nodes_app]; exact List.mem_append_right _ (by simp [nodes])
    have h00 := h.inn (a, b) (by simp)
    obtain ⟨lv1, h2⟩ := h1.putRow (a := a) (l.getD a.toNat []) R r m lv ha rfl (fun x hx => ⟨(hl _ x hx).1, (hl _ x hx).2, hx⟩)
    obtain ⟨tr, lv2, h3, h4⟩ := bfs_go hl k _ _ _ _ lv1 _ h2 (fun p hp x hx => by
      rcases List.mem_append.1 hp with hp | hp
      · exact .inl (hR p hp x hx)
      · obtain rfl := List.mem_singleton.1 hp
        exact .inr ⟨rfl, hx⟩) (by simp; omega)
    refine ⟨(a, b) :: tr, lv2, ?_, ?_⟩
    · rw [bfs]
      simp only
      rw [h3]; rfl
    · rw [show T ++ (a, b) :: tr = (T ++ [(a, b)]) ++ tr by simp]; exact h4
theorem bfs_is {l : List (List Int)} {first : List Int} (hl : InN l.length l) (hf : ∀ x ∈ first, 0 ≤ x ∧ x < (l.length : Int)) (K : Nat) (hK : l.length < K) :
    ∃ A lv, bfs l K (walkPut first (-1) (List.replicate l.length false, [])).1 (walkPut first (-1) (List.replicate l.length false, [])).2 = some A ∧ BFin l first A lv := by
  have h0 : BInv l first (fun _ => False) (fun _ _ => False) [] [] (List.replicate l.length false) (fun _ => 0) 0 := by
    refine ⟨by simp, by simp, fun x _ => ?_, by simp [nodes], by simp, fun _ _ h => h.elim, fun _ h => h.elim, by simp [nodes], by simp, by simp⟩
    unfold rdOf
    rw [List.getD_eq_getElem?_getD, List.getElem?_replicate]
    split <;> simp [nodes]
  obtain ⟨lv1, h1⟩ := BInv.putFirst first _ [] _ _ h0 (by simp) (fun x hx => ⟨(hf x hx).1, (hf x hx).2, hx⟩)
  obtain ⟨A, lv2, h2, h3⟩ := bfs_go hl K _ [] _ _ lv1 0 (h1.more (fun _ _ h => .inl h) (fun x hx => .inl (.inr hx))) (by simp) (by simpa using hK)
  exact ⟨A, lv2, h2, by simpa using h3⟩
section
variable {l : List (List Int)} {first : List Int} {A : List (Int × Int)} {lv : Int → Nat}
theorem BFin.low (h : BFin l first A lv) : ∀ d x, lay l first d x → x ∈ nodes A ∧ lv x ≤ d
  | 0, x, hx => by have := h.fst x hx; exact ⟨this.1, by omega⟩
  | d + 1, x, ⟨a, h1, h2⟩ => by
    obtain ⟨h3, h4⟩ := h.low d a h1
    obtain ⟨h5, h6⟩ := h.rows a h3 x h2
    exact ⟨h5, by omega⟩
theorem BFin.high (h : BFin l first A lv) : ∀ d x, x ∈ nodes A → lv x = d → lay l first d x
  | 0, x, hx, e => by
    obtain ⟨p, hp, rfl⟩ := of_nodes hx
    rcases h.ent p hp with ⟨_, h2, _⟩ | ⟨_, _, h3⟩
    · exact h2
    · omega
  | d + 1, x, hx, e => by
    obtain ⟨p, hp, rfl⟩ := of_nodes hx
    rcases h.ent p hp with ⟨_, _, h2⟩ | ⟨h1, h2, h3⟩
    · omega
    · exact ⟨p.2, h.high d p.2 h1 (by omega), h2⟩
theorem BFin.mem (h : BFin l first A lv) (x : Int) : x ∈ nodes A ↔ ∃ d, lay l first d x :=
  ⟨fun hx => ⟨_, h.high _ x hx rfl⟩, fun ⟨d, hd⟩ => (h.low d x hd).1⟩
end
theorem stop_to (m : Int) : ∀ A : List (Int × Int), stopAt (toTell m) A false = decide (m ∈ nodes A)
  | [] => rfl
  | x :: r => by
    rw [stopAt]
    show (if (!decide (x.1 = m)) = true then stopAt (toTell m) r (decide (x.1 = m)) else decide (x.1 = m)) = _
    by_cases e : x.1 = m
    · rw [decide_eq_true e, if_neg (by decide)]
      exact (decide_eq_true (by rw [← e]; exact List.mem_cons_self)).symm
    · rw [decide_eq_false e, if_pos (show (!false) = true by decide), stop_to m r]
      have : m ∈ nodes (x :: r) ↔ m ∈ nodes r := by
        show m ∈ x.1 :: nodes r ↔ _
        rw [List.mem_cons]
        exact ⟨fun h => h.elim (fun h => absurd h.symm e) id, .inr⟩
      simp only [this]
theorem to_is {l : List (List Int)} {first : List Int} (hl : InN l.length l) (hf : ∀ x ∈ first, 0 ≤ x ∧ x < (l.length : Int)) (m : Int) (K : Nat) (hK : l.length < K) :
    ∃ r, toF l first m K = some r ∧ (r = true ↔ ∃ d, lay l first d m) := by
  obtain ⟨A, lv, h1, h2⟩ := bfs_is hl hf K hK
  refine ⟨decide (m ∈ nodes A), ?_, by rw [decide_eq_true_iff]; exact h2.mem m⟩
  unfold toF
  rw [walk_bfs l (toTell m) K _ _ false A h1, stop_to]
def hitRow (mk : List Bool) (all : Bool) (m : Int) : List S59 → Bool
  | [] => false
  | s :: r => (!s.f0 && (s.f1 == m)) || (if all = false ∧ (s.f0 = true ∨ rdOf false mk s.f1 = false) then false else hitRow mk all m r)
def hits (mk : List Bool) (all : Bool) (L : List S51) (n m : Int) : Bool := L.any fun p => decide (p.f0 = n) && hitRow mk all m p.f1
def nxt (mk : List Bool) (all : Bool) (L : List S51) (n : Int) (N : Nat) : List Int := (upTo N).filter fun m => hits mk all L n m
theorem mem_upTo {N : Nat} {x : Int} : x ∈ upTo N ↔ 0 ≤ x ∧ x < (N : Int) := by
  unfold upTo
  rw [List.mem_map]
  constructor
  · rintro ⟨i, hi, rfl⟩
    rw [List.mem_range] at hi
    exact ⟨Int.natCast_nonneg i, Int.ofNat_lt.2 hi⟩
  · rintro ⟨h0, h1⟩
    exact ⟨x.toNat, by rw [List.mem_range]; omega, by show ((x.toNat : Nat) : Int) = x; omega⟩
theorem upTo_nodup (N : Nat) : (upTo N).Nodup := by
  induction N with
  | zero => simp [upTo]
  | succ N ih =>
    rw [upTo_succ]
    exact List.nodup_append.2 ⟨ih, by simp, fun a ha b hb e => by
      have h1 := mem_upTo.1 ha
      have h2 : b = (N : Int) := by simpa using hb
      omega⟩
theorem upTo_drop (N i : Nat) (h : i < N) : (upTo N).drop i = (i : Int) :: (upTo N).drop (i + 1) := by
  rw [List.drop_eq_getElem_cons (by rw [upTo_length]; exact h)]
  congr 1
  simp [upTo]
section
variable (t l : Int) (o : List Int) (L : List S51) (mk : List Bool) (n : Int) (all : Bool)
theorem ev_n2 {m : Int} {i : Nat} (hi : i < L.length) (hL : L.length ≤ 1000) (hr8 : L[i].f1.length ≤ 1000) (hs : ∀ s ∈ L[i].f1, SymOk mk.length s) (out res : List Int) : ∀ (d j : Nat) (is : Bool), j + d = L[i].f1.length →
    Ev (fun k => gramaryeref11_Next.l1 k n all mk out m (is || hitRow mk all m (L[i].f1.drop j)) ((i + 1 : Nat) : Int) t l o L) res →
    Ev (fun k => gramaryeref11_Next.l2 k n all mk out m is (i : Int) (j : Int) t l o L) res
  | 0, j, is, hj, h => by
    refine Ev.step (fun k => ?_) h
    rw [gramaryeref11_Next.l2, if_pos (by omega), if_pos (by omega), rd51 L i hi, if_neg (by omega), w1 i (by omega), List.drop_of_length_le (by omega)]
    simp [hitRow]
  | d + 1, j, is, hj, h => by
    have hjl : j < L[i].f1.length := by omega
    have hk := hs _ (List.getElem_mem hjl)
    have ih := fun is => ev_n2 (m := m) hi hL hr8 hs out res d (j + 1) is (by omega)
    rw [List.drop_eq_getElem_cons hjl, hitRow] at h
    refine Ev.step (f := fun k => gramaryeref11_Next.j3 k n all mk out m is (i : Int) (j : Int) (!L[i].f1[j].f0 && (L[i].f1[j].f1 == m)) t l o L L[i].f1[j].f0 L[i].f1[j].f1) (fun k => ?_) ?_
    · rw [gramaryeref11_Next.l2, if_pos (by omega), if_pos (by omega), rd51 L i hi, if_pos (by omega), if_pos (by omega), rd59 _ j hjl]
      cases L[i].f1[j].f0 <;> rfl
    generalize L[i].f1[j] = s at h hk
    have stop : (all = false ∧ (s.f0 = true ∨ rdOf false mk s.f1 = false)) → Ev (fun k => gramaryeref11_Next.j3 k n all mk out m is (i : Int) (j : Int) (!s.f0 && (s.f1 == m)) t l o L s.f0 s.f1) res := by
      intro hst
      rw [if_pos hst, Bool.or_false] at h
      refine Ev.step (fun k => ?_) h
      rw [gramaryeref11_Next.j3, w1 i (by omega), hst.1]
      cases c : s.f0 with
      | true => simp
      | false =>
        have h0 := hk c
        have h1 := hst.2.resolve_left (by rw [c]; decide)
        rw [h1]
        cases hm : (s.f1 == m) <;> cases is <;> simp [h0.1, h0.2]
    have go : ¬ (all = false ∧ (s.f0 = true ∨ rdOf false mk s.f1 = false)) → Ev (fun k => gramaryeref11_Next.j3 k n all mk out m is (i : Int) (j : Int) (!s.f0 && (s.f1 == m)) t l o L s.f0 s.f1) res := by
      intro hst
      rw [if_neg hst, ← Bool.or_assoc] at h
      refine Ev.step (fun k => ?_) (ih _ h)
      rw [gramaryeref11_Next.j3, w1 j (by omega)]
      cases hall : all with
      | true =>
        cases (!s.f0 && (s.f1 == m)) <;> cases is <;> simp
      | false =>
        have h1 : s.f0 = false := by
          cases c : s.f0 with
          | true => exact absurd ⟨hall, .inl c⟩ hst
          | false => rfl
        have h2 : rdOf false mk s.f1 = true := by
          cases c : rdOf false mk s.f1 with
          | false => exact absurd ⟨hall, .inr c⟩ hst
          | true => rfl
        have h0 := hk h1
        rw [h1, h2]
        cases hm : (s.f1 == m) <;> cases is <;> simp [h0.1, h0.2]
    by_cases hst : all = false ∧ (s.f0 = true ∨ rdOf false mk s.f1 = false)
    · exact stop hst
    · exact go hst
theorem ev_n1 {m : Int} (hm : ∃ i : Nat, m = (i : Int) ∧ i < 1000000) (hL : L.length ≤ 1000) (hr8 : ∀ p ∈ L, p.f1.length ≤ 1000) (hs : ∀ p ∈ L, ∀ s ∈ p.f1, SymOk mk.length s) (out res : List Int) (hout : out.length ≤ 1000000) : ∀ (d i : Nat) (is : Bool), i + d = L.length →
    Ev (fun k => gramaryeref11_Next.l0 k n all mk (if (is || hits mk all (L.drop i) n m) = true then out ++ [m] else out) (m + 1) t l o L) res →
    Ev (fun k => gramaryeref11_Next.l1 k n all mk out m is (i : Int) t l o L) res
  | 0, i, is, hi, h => by
    refine Ev.step (fun k => ?_) h
    obtain ⟨m0, rfl, hm0⟩ := hm
    rw [gramaryeref11_Next.l1, if_neg (by omega), List.drop_of_length_le (by omega), w1 m0 (by omega)]
    have e : (is || hits mk all [] n (m0 : Int)) = is := by simp [hits]
    rw [e]
    cases is with
    | true => rw [if_pos rfl, if_pos rfl, if_pos (by omega)]; rfl
    | false => rw [if_neg (by decide), if_neg (by decide)]; rfl
  | d + 1, i, is, hi, h => by
    have hil : i < L.length := by omega
    have ih := fun is => ev_n1 hm hL hr8 hs out res hout d (i + 1) is (by omega)
    have e : (is || hits mk all (L.drop i) n m) = ((is || (decide (L[i].f0 = n) && hitRow mk all m L[i].f1)) || hits mk all (L.drop (i + 1)) n m) := by
      rw [List.drop_eq_getElem_cons hil]
      unfold hits
      rw [List.any_cons, Bool.or_assoc]
    rw [e] at h
    by_cases c : L[i].f0 = n
    · rw [decide_eq_true c, Bool.true_and] at h
      refine Ev.step (fun k => ?_) (ev_n2 t l o L mk n all hil hL (hr8 _ (List.getElem_mem hil)) (hs _ (List.getElem_mem hil)) out res L[i].f1.length 0 is (by omega) (by rw [List.drop_zero]; exact ih _ h))
      rw [gramaryeref11_Next.l1, if_pos (by omega), if_pos (by omega), rd51 L i hil, if_pos c]; rfl
    · rw [decide_eq_false c, Bool.false_and, Bool.or_false] at h
      refine Ev.step (fun k => ?_) (ih _ h)
      rw [gramaryeref11_Next.l1, if_pos (by omega), if_pos (by omega), rd51 L i hil, if_neg c, w1 i (by omega)]
theorem ev_n0 (ho : o.length ≤ 1000) (hL : L.length ≤ 1000) (hr8 : ∀ p ∈ L, p.f1.length ≤ 1000) (hs : ∀ p ∈ L, ∀ s ∈ p.f1, SymOk mk.length s) : ∀ (d i : Nat) (out : List Int), i + d = o.length → out.length ≤ i →
    Ev (fun k => gramaryeref11_Next.l0 k n all mk out (i : Int) t l o L) (out ++ ((upTo o.length).drop i).filter fun m => hits mk all L n m)
  | 0, i, out, hi, hout => by
    refine ⟨1, fun k hk => ?_⟩
    obtain ⟨k, rfl⟩ : ∃ m, k = m + 1 := ⟨k - 1, by omega⟩
    show gramaryeref11_Next.l0 (k + 1) n all mk out (i : Int) t l o L = _
    rw [gramaryeref11_Next.l0, if_neg (by omega), List.drop_of_length_le (by rw [upTo_length]; omega)]
    simp
  | d + 1, i, out, hi, hout => by
    have ih := fun out' => ev_n0 ho hL hr8 hs d (i + 1) out' (by omega)
    refine Ev.step (f := fun k => gramaryeref11_Next.l1 k n all mk out (i : Int) false 0 t l o L) (fun k => by rw [gramaryeref11_Next.l0, if_pos (by omega)]) ?_
    refine ev_n1 t l o L mk n all ⟨i, rfl, by omega⟩ hL hr8 hs out _ (by omega) L.length 0 false (by omega) ?_
    rw [List.drop_zero, Bool.false_or, upTo_drop _ _ (by omega), List.filter_cons]
    by_cases c : hits mk all L n (i : Int) = true
    · rw [if_pos c, if_pos c]
      have := ih (out ++ [(i : Int)]) (by simp; omega)
      rw [List.append_assoc] at this
      exact this
    · rw [if_neg c, if_neg c]
      exact ih out (by omega)
theorem next_is (ho : o.length ≤ 1000) (hL : L.length ≤ 1000) (hr8 : ∀ p ∈ L, p.f1.length ≤ 1000) (hs : ∀ p ∈ L, ∀ s ∈ p.f1, SymOk mk.length s) (hN : Ev (fun k => gramaryeref10_Nothing.f k t l o L) mk) :
    Ev (fun k => gramaryeref11_Next.f k t l o L n all) (nxt mk all L n o.length) :=
  Ev.bind (f := fun k t170 => gramaryeref11_Next.l0 k n all t170 [] 0 t l o L) hN (by have := ev_n0 t l o L mk n all ho hL hr8 hs o.length 0 [] (by omega) (by simp); rwa [List.drop_zero, List.nil_append] at this)
end
theorem has_l0 (l : List Int) (x : Int) (hl : l.length ≤ 1000000) : ∀ (d i k : Nat), i + d = l.length → d < k → gramaryebase_HasInt.l0 k l x (i : Int) = some (decide (x ∈ l.drop i))
  | 0, i, k, h1, h2 => by
    obtain ⟨k, rfl⟩ : ∃ m, k = m + 1 := ⟨k - 1, by omega⟩
    rw [gramaryebase_HasInt.l0, if_neg (by omega), List.drop_of_length_le (by omega)]
    simp
  | d + 1, i, k, h1, h2 => by
    obtain ⟨k, rfl⟩ : ∃ m, k = m + 1 := ⟨k - 1, by omega⟩
    have hi : i < l.length := by omega
    have hr : rd l (i : Int) = l[i] := by unfold rd; rw [Int.toNat_natCast, List.getD_eq_getElem?_getD, List.getElem?_eq_getElem hi]; rfl
    rw [gramaryebase_HasInt.l0, if_pos (by omega), if_pos (by omega), hr, w1 i (by omega), has_l0 l x hl d (i + 1) k (by omega) (by omega), List.drop_eq_getElem_cons hi]
    by_cases c : l[i] = x
    · rw [if_pos c, ← c]; exact congrArg some (decide_eq_true List.mem_cons_self).symm
    · rw [if_neg c]
      have c' : ¬ x = l[i] := fun e => c e.symm
      have e : x ∈ l[i] :: l.drop (i + 1) ↔ x ∈ l.drop (i + 1) := by rw [List.mem_cons]; exact ⟨fun h => h.resolve_left c', .inr⟩
      simp only [e]
theorem has_is (l : List Int) (x : Int) (hl : l.length ≤ 1000000) (k : Nat) (hk : l.length < k) : gramaryebase_HasInt.f k l x = some (decide (x ∈ l)) := by
  have := has_l0 l x hl l.length 0 k (by omega) hk
  rw [List.drop_zero] at this
  exact this
theorem ev_has (l : List Int) (x : Int) (hl : l.length ≤ 1000000) : Ev (fun k => gramaryebase_HasInt.f k l x) (decide (x ∈ l)) := ⟨l.length + 1, fun k hk => has_is l x hl k (by omega)⟩
def addAll (out xs : List Int) : List Int := xs.foldl (fun o x => if x ∈ o then o else o ++ [x]) out
theorem addAll_ext : ∀ (xs out : List Int), ∃ r, addAll out xs = out ++ r ∧ (∀ x, x ∈ addAll out xs ↔ x ∈ out ∨ x ∈ xs) ∧ (out.Nodup → (addAll out xs).Nodup)
  | [], out => ⟨[], by simp [addAll], by simp [addAll], fun h => h⟩
  | x :: xs, out => by
    have e : addAll out (x :: xs) = addAll (if x ∈ out then out else out ++ [x]) xs := rfl
    by_cases c : x ∈ out
    · rw [e, if_pos c]
      obtain ⟨r, h1, h2, h3⟩ := addAll_ext xs out
      exact ⟨r, h1, fun y => by rw [h2, List.mem_cons]; exact ⟨fun h => h.imp id .inr, fun h => h.elim .inl fun h => h.elim (fun e => .inl (e ▸ c)) .inr⟩, h3⟩
    · rw [e, if_neg c]
      obtain ⟨r, h1, h2, h3⟩ := addAll_ext xs (out ++ [x])
      refine ⟨x :: r, by rw [h1]; simp, fun y => by rw [h2, List.mem_append, List.mem_singleton, List.mem_cons]; exact or_assoc, fun h => h3 (List.nodup_append.2 ⟨h, by simp, fun a ha b hb e => ?_⟩)⟩
      have : b = x := by simpa using hb
      exact c (by rw [← this, ← e]; exact ha)
section
variable (t l : Int) (o : List Int) (L : List S51) (all : Bool) (nx : Int → List Int)
theorem ev_f1 {i : Nat} (hi : i < 100000) (xs res : List Int) (hxs : xs.length ≤ 1000) : ∀ (d j : Nat) (out : List Int), j + d = xs.length → out.length + d ≤ 1000000 → Ev (fun k => gramaryeref11_from.l0 k all (addAll out (xs.drop j)) ((i + 1 : Nat) : Int) t l o L) res →
    Ev (fun k => gramaryeref11_from.l1 k all out (i : Int) xs (j : Int) t l o L) res
  | 0, j, out, hj, ho, h => by
    rw [List.drop_of_length_le (by omega)] at h
    refine Ev.step (fun k => ?_) h
    rw [gramaryeref11_from.l1, if_neg (by omega), w1 i (by omega)]; rfl
  | d + 1, j, out, hj, ho, h => by
    have hjl : j < xs.length := by omega
    have hr : rd xs (j : Int) = xs[j] := by unfold rd; rw [Int.toNat_natCast, List.getD_eq_getElem?_getD, List.getElem?_eq_getElem hjl]; rfl
    rw [List.drop_eq_getElem_cons hjl] at h
    have h' : Ev (fun k => gramaryeref11_from.l0 k all (addAll (if xs[j] ∈ out then out else out ++ [xs[j]]) (xs.drop (j + 1))) ((i + 1 : Nat) : Int) t l o L) res := h
    refine Ev.step (f := fun k => (gramaryebase_HasInt.f k out xs[j]).bind fun b => if b = true then gramaryeref11_from.l1 k all out (i : Int) xs ((j + 1 : Nat) : Int) t l o L else if out.length < 17592186044416 then gramaryeref11_from.l1 k all (out ++ [xs[j]]) (i : Int) xs ((j + 1 : Nat) : Int) t l o L else none) (fun k => by
      rw [gramaryeref11_from.l1, if_pos (by omega), if_pos (by omega), hr, w1 j (by omega)]) ?_
    refine Ev.bind (ev_has out xs[j] (by omega)) ?_
    by_cases c : xs[j] ∈ out
    · rw [if_pos c] at h'
      have := ev_f1 hi xs res hxs d (j + 1) out (by omega) (by omega) h'
      refine Ev.congr (fun k => ?_) this
      rw [decide_eq_true c, if_pos rfl]
    · rw [if_neg c] at h'
      have := ev_f1 hi xs res hxs d (j + 1) (out ++ [xs[j]]) (by omega) (by simp; omega) h'
      refine Ev.congr (fun k => ?_) this
      rw [decide_eq_false c, if_neg (by decide), if_pos (by omega)]
theorem ev_f0 (N : Nat) (hN : N ≤ 1000) (S : Int → Prop) (hnx : ∀ a, 0 ≤ a → a < (N : Int) → Ev (fun k => gramaryeref11_Next.f k t l o L a all) (nx a) ∧ (nx a).length ≤ N ∧ ∀ x ∈ nx a, 0 ≤ x ∧ x < (N : Int) ∧ (S a → S x)) : ∀ (d i : Nat) (out : List Int), N ≤ i + d → i ≤ out.length → out.Nodup → (∀ x ∈ out, 0 ≤ x ∧ x < (N : Int) ∧ S x) → (∀ j, (hj : j < out.length) → j < i → ∀ x ∈ nx out[j], x ∈ out) →
    ∃ r, Ev (fun k => gramaryeref11_from.l0 k all out (i : Int) t l o L) r ∧ (∀ x ∈ out, x ∈ r) ∧ r.length ≤ N ∧ (∀ x ∈ r, 0 ≤ x ∧ x < (N : Int) ∧ S x) ∧ ∀ a ∈ r, ∀ x ∈ nx a, x ∈ r := by
  intro d
  induction d with
  | zero =>
    intro i out h1 h2 h3 h4 h5
    have hle := nodup_le N out h3 (fun x hx => ⟨(h4 x hx).1, (h4 x hx).2.1⟩)
    refine ⟨out, ⟨1, fun k hk => ?_⟩, fun x hx => hx, hle, h4, fun a ha x hx => ?_⟩
    · obtain ⟨k, rfl⟩ : ∃ m, k = m + 1 := ⟨k - 1, by omega⟩
      show gramaryeref11_from.l0 (k + 1) all out (i : Int) t l o L = _
      rw [gramaryeref11_from.l0, if_neg (by omega)]
    · obtain ⟨j, hj, rfl⟩ := List.getElem_of_mem ha
      exact h5 j hj (by omega) x hx
  | succ d ih =>
    intro i out h1 h2 h3 h4 h5
    have hle := nodup_le N out h3 (fun x hx => ⟨(h4 x hx).1, (h4 x hx).2.1⟩)
    by_cases hi : i < out.length
    · have hr : rd out (i : Int) = out[i] := by unfold rd; rw [Int.toNat_natCast, List.getD_eq_getElem?_getD, List.getElem?_eq_getElem hi]; rfl
      have h6 := h4 _ (List.getElem_mem hi)
      obtain ⟨n1, n2, n3⟩ := hnx out[i] h6.1 h6.2.1
      obtain ⟨r1, e1, e2, e3⟩ := addAll_ext (nx out[i]) out
      obtain ⟨r, q1, q2, q3⟩ := ih (i + 1) (addAll out (nx out[i])) (by omega) (by rw [e1, List.length_append]; omega) (e3 h3) (fun x hx => by
        rcases (e2 x).1 hx with h | h
        · exact h4 x h
        · exact ⟨(n3 x h).1, (n3 x h).2.1, (n3 x h).2.2 h6.2.2⟩) (fun j hj hji x hx => by
        have hjo : j < out.length := by omega
        have e4 : (addAll out (nx out[i]))[j] = out[j] := by
          have : (addAll out (nx out[i]))[j]? = out[j]? := by rw [e1, List.getElem?_append_left hjo]
          rw [List.getElem?_eq_getElem hj, List.getElem?_eq_getElem hjo] at this
          exact Option.some.inj this
        rw [e4] at hx
        by_cases e : j = i
        · subst e
          exact (e2 x).2 (.inr hx)
        · exact (e2 x).2 (.inl (h5 j hjo (by omega) x hx)))
      refine ⟨r, ?_, fun x hx => q2 x ((e2 x).2 (.inl hx)), q3⟩
      refine Ev.step (f := fun k => (gramaryeref11_Next.f k t l o L out[i] all).bind fun xs => gramaryeref11_from.l1 k all out (i : Int) xs 0 t l o L) (fun k => by
        rw [gramaryeref11_from.l0, if_pos (by omega), if_pos (by omega), hr]) ?_
      exact Ev.bind (f := fun k xs => gramaryeref11_from.l1 k all out (i : Int) xs 0 t l o L) n1 (ev_f1 t l o L all (by omega) (nx out[i]) r (by omega) (nx out[i]).length 0 out (by omega) (by omega) (by rw [List.drop_zero]; exact q1))
    · refine ⟨out, ⟨1, fun k hk => ?_⟩, fun x hx => hx, hle, h4, fun a ha x hx => ?_⟩
      · obtain ⟨k, rfl⟩ : ∃ m, k = m + 1 := ⟨k - 1, by omega⟩
        show gramaryeref11_from.l0 (k + 1) all out (i : Int) t l o L = _
        rw [gramaryeref11_from.l0, if_neg (by omega)]
      · obtain ⟨j, hj, rfl⟩ := List.getElem_of_mem ha
        exact h5 j hj (by omega) x hx
theorem from_is (N : Nat) (hN : N ≤ 1000) (g : List (List Int)) (first : List Int) (hf : first.Nodup) (hf2 : ∀ x ∈ first, 0 ≤ x ∧ x < (N : Int)) (hnx : ∀ a, 0 ≤ a → a < (N : Int) → Ev (fun k => gramaryeref11_Next.f k t l o L a all) (nx a) ∧ (nx a).length ≤ N ∧ ∀ x, x ∈ nx a ↔ x ∈ g.getD a.toNat []) (hg : ∀ i, ∀ x ∈ g.getD i [], 0 ≤ x ∧ x < (N : Int)) :
    ∃ r, Ev (fun k => gramaryeref11_from.f k t l o L first all) r ∧ r.length ≤ N ∧ ∀ x, x ∈ r ↔ ∃ d, lay g first d x := by
  have hfl := nodup_le N first hf hf2
  obtain ⟨r, h1, h2, h3, h4, h5⟩ := ev_f0 t l o L all nx N hN (fun x => ∃ d, lay g first d x) (fun a a0 a1 => ⟨(hnx a a0 a1).1, (hnx a a0 a1).2.1, fun x hx => by
    have hx' := ((hnx a a0 a1).2.2 x).1 hx
    exact ⟨(hg _ x hx').1, (hg _ x hx').2, fun ⟨d, hd⟩ => ⟨d + 1, a, hd, hx'⟩⟩⟩) N 0 first (by omega) (by omega) hf (fun x hx => ⟨(hf2 x hx).1, (hf2 x hx).2, 0, hx⟩) (fun j _ hj => by omega)
  refine ⟨r, ?_, h3, fun x => ⟨fun hx => (h4 x hx).2.2, fun ⟨d, hd⟩ => ?_⟩⟩
  · have e : gramaryebase_Ints.f first = some first := ints_is _ (by omega)
    refine Ev.congr (fun k => ?_) h1
    show (gramaryebase_Ints.f first).bind _ = _
    rw [e]; rfl
  · have : ∀ d x, lay g first d x → x ∈ r := by
      intro d
      induction d with
      | zero => exact fun x hx => h2 x hx
      | succ d ih =>
        rintro x ⟨a, ha, hx⟩
        have har := ih a ha
        have := h4 a har
        exact h5 a har x (((hnx a this.1 this.2.1).2.2 x).2 hx)
    exact this d x hd
end
theorem mem_addF (g : List (List Int)) (n m x : Int) (i : Nat) : x ∈ (addF g n m).getD i [] ↔ x ∈ g.getD i [] ∨ (i = n.toNat ∧ i < g.length ∧ x = m) := by
  unfold addF
  by_cases c : m ∈ g.getD n.toNat []
  · rw [if_pos c]
    exact ⟨.inl, fun h => h.elim id fun ⟨e1, _, e2⟩ => by rw [e1, e2]; exact c⟩
  · rw [if_neg c]
    by_cases e : i = n.toNat
    · subst e
      by_cases hl : n.toNat < g.length
      · rw [List.getD_eq_getElem?_getD, List.getElem?_set_self hl]
        simp only [Option.getD_some, List.mem_append, List.mem_singleton]
        exact ⟨fun h => h.imp id fun h => ⟨trivial, hl, h⟩, fun h => h.imp id fun h => h.2.2⟩
      · rw [List.getD_eq_getElem?_getD, List.getElem?_eq_none (by rw [List.length_set]; omega), List.getD_eq_getElem?_getD, List.getElem?_eq_none (by omega)]
        simp [hl]
    · rw [List.getD_eq_getElem?_getD, List.getElem?_set_ne (fun h => e h.symm), ← List.getD_eq_getElem?_getD]
      exact ⟨.inl, fun h => h.elim id fun h => absurd h.1 e⟩
theorem begRow_len (mk : List Bool) (n : Int) : ∀ (r : List S59) (g : List (List Int)), (begRow mk n r g).length = g.length
  | [], g => rfl
  | s :: r, g => by
    rw [begRow]
    split
    · rfl
    · split
      · rw [begRow_len mk n r, addF_length]
      · rw [addF_length]
theorem mem_begRow (mk : List Bool) (n x : Int) (i : Nat) : ∀ (r : List S59) (g : List (List Int)), x ∈ (begRow mk n r g).getD i [] ↔ x ∈ g.getD i [] ∨ (i = n.toNat ∧ i < g.length ∧ hitRow mk false x r = true)
  | [], g => by simp [begRow, hitRow]
  | s :: r, g => by
    rw [begRow, hitRow]
    cases c : s.f0 with
    | true => simp
    | false =>
      rw [if_neg (by decide)]
      have e : (s.f1 == x) = true ↔ x = s.f1 := by rw [beq_iff_eq]; exact ⟨Eq.symm, Eq.symm⟩
      cases d : rdOf false mk s.f1 with
      | true =>
        rw [if_pos rfl, mem_begRow mk n x i r, mem_addF, addF_length]
        simp only [Bool.not_false, Bool.true_and, Bool.or_eq_true, e]
        simp only [true_and, Bool.false_eq_true, false_or, Bool.true_eq_false, if_false]
        exact ⟨fun h => h.elim (fun h => h.imp id fun h => ⟨h.1, h.2.1, .inl h.2.2⟩) fun h => .inr ⟨h.1, h.2.1, .inr h.2.2⟩, fun h => h.elim (fun h => .inl (.inl h)) fun ⟨h1, h2, h3⟩ => h3.elim (fun h => .inl (.inr ⟨h1, h2, h⟩)) fun h => .inr ⟨h1, h2, h⟩⟩
      | false =>
        rw [if_neg (by decide), mem_addF]
        simp only [Bool.not_false, Bool.true_and, Bool.or_eq_true, e]
        simp
theorem mem_begF (mk : List Bool) (x : Int) (i : Nat) : ∀ (L : List S51) (g : List (List Int)), x ∈ (begF mk L g).getD i [] ↔ x ∈ g.getD i [] ∨ (i < g.length ∧ ∃ p ∈ L, i = p.f0.toNat ∧ hitRow mk false x p.f1 = true)
  | [], g => by simp [begF]
  | p :: r, g => by
    rw [begF, mem_begF mk x i r, mem_begRow, begRow_len]
    constructor
    · rintro ((h | ⟨h1, h2, h3⟩) | ⟨h1, q, hq, h2, h3⟩)
      · exact .inl h
      · exact .inr ⟨h2, p, List.mem_cons_self, h1, h3⟩
      · exact .inr ⟨h1, q, List.mem_cons_of_mem _ hq, h2, h3⟩
    · rintro (h | ⟨h1, q, hq, h2, h3⟩)
      · exact .inl (.inl h)
      · rcases List.mem_cons.1 hq with rfl | hq
        · exact .inl (.inr ⟨h2, h1, h3⟩)
        · exact .inr ⟨h1, q, hq, h2, h3⟩
theorem mem_begG {t l : Int} {o : List Int} {L : List S51} (hm : bnf_mayB t l o L = 0) (mk : List Bool) (a x : Int) (a0 : 0 ≤ a) (a1 : a < (o.length : Int)) : x ∈ (begG mk o L).getD a.toNat [] ↔ x ∈ nxt mk false L a o.length := by
  have hin := may_inN hm
  have key : x ∈ (begG mk o L).getD a.toNat [] ↔ ∃ p ∈ L, p.f0 = a ∧ hitRow mk false x p.f1 = true := by
    unfold begG
    rw [mem_begF, List.length_replicate]
    have e : x ∉ (List.replicate o.length ([] : List Int)).getD a.toNat [] := by
      rw [List.getD_eq_getElem?_getD, List.getElem?_replicate]
      split <;> simp
    constructor
    · rintro (h | ⟨h1, p, hp, h2, h3⟩)
      · exact absurd h e
      · exact ⟨p, hp, by have := (hin p hp).1; omega, h3⟩
    · rintro ⟨p, hp, rfl, h3⟩
      exact .inr ⟨by omega, p, hp, rfl, h3⟩
  have hr : x ∈ (begG mk o L).getD a.toNat [] → 0 ≤ x ∧ x < (o.length : Int) := (begG_ok hm mk).1 a.toNat x
  unfold nxt
  rw [List.mem_filter, mem_upTo]
  unfold hits
  rw [List.any_eq_true]
  constructor
  · intro h
    obtain ⟨p, hp, h1, h2⟩ := key.1 h
    exact ⟨hr h, p, hp, by rw [decide_eq_true h1, h2]; rfl⟩
  · rintro ⟨_, p, hp, h⟩
    rw [Bool.and_eq_true, decide_eq_true_iff] at h
    exact key.2 ⟨p, hp, h⟩
theorem nxt_nodup (mk : List Bool) (all : Bool) (L : List S51) (n : Int) (N : Nat) : (nxt mk all L n N).Nodup := (upTo_nodup N).filter _
theorem nxt_in {mk : List Bool} {all : Bool} {L : List S51} {n : Int} {N : Nat} {x : Int} (h : x ∈ nxt mk all L n N) : 0 ≤ x ∧ x < (N : Int) := by
  unfold nxt at h
  exact mem_upTo.1 (List.mem_filter.1 h).1
def Beg (mk : List Bool) (o : List Int) (L : List S51) (n m : Int) : Prop := ∃ d, lay (begG mk o L) ((begG mk o L).getD n.toNat []) d m
theorem ref_begins {t l : Int} {o : List Int} {L : List S51} (hm : bnf_mayB t l o L = 0) (hs : Small 40 60 o L) {mk : List Bool} (hmk : mk.length = o.length) (hN : Ev (fun k => gramaryeref10_Nothing.f k t l o L) mk) (n m : Int) (n0 : 0 ≤ n) (n1 : n < (o.length : Int)) :
    ∃ b, Ev (fun k => gramaryeref11_Begins.f k t l o L n m) b ∧ (b = true ↔ Beg mk o L n m) := by
  have hin := may_inN hm
  have ho := hs.o
  have hl := hs.l
  have hok := begG_ok hm mk
  have hnx : ∀ a, Ev (fun k => gramaryeref11_Next.f k t l o L a false) (nxt mk false L a o.length) := fun a =>
    next_is t l o L mk a false (by omega) (by omega) (fun p hp => by have := hs.r p hp; omega) (fun p hp => by rw [hmk]; exact (hin p hp).2.2) hN
  obtain ⟨r, h1, h2, h3⟩ := from_is t l o L false (fun a => nxt mk false L a o.length) o.length (by omega) (begG mk o L) (nxt mk false L n o.length) (nxt_nodup _ _ _ _ _) (fun x hx => nxt_in hx)
    (fun a a0 a1 => ⟨hnx a, nodup_le _ _ (nxt_nodup _ _ _ _ _) (fun x hx => nxt_in hx), fun x => (mem_begG hm mk a x a0 a1).symm⟩) hok.1
  refine ⟨decide (m ∈ r), ?_, ?_⟩
  · exact Ev.bind (f := fun k t201 => (gramaryeref11_from.f k t l o L t201 false).bind fun t204 => (gramaryebase_HasInt.f k t204 m).bind fun t207 => some t207) (hnx n)
      (Ev.bind (f := fun k t204 => (gramaryebase_HasInt.f k t204 m).bind fun t207 => some t207) h1 (Ev.bind (f := fun _ t207 => some t207) (ev_has r m (by omega)) (Ev.now _)))
  · rw [decide_eq_true_iff, h3 m]
    unfold Beg
    exact ⟨fun ⟨d, hd⟩ => ⟨d, (lay_congr (fun x => (mem_begG hm mk n x n0 n1).symm) d m).1 hd⟩, fun ⟨d, hd⟩ => ⟨d, (lay_congr (fun x => (mem_begG hm mk n x n0 n1).symm) d m).2 hd⟩⟩
theorem to_begins {t l : Int} {o : List Int} {L : List S51} (hm : bnf_mayB t l o L = 0) (mk : List Bool) (n m : Int) : ∃ b, toF (begG mk o L) ((begG mk o L).getD n.toNat []) m (o.length + 2) = some b ∧ (b = true ↔ Beg mk o L n m) := by
  have hok := begG_ok hm mk
  exact to_is (by rw [hok.2]; exact hok.1) (by rw [hok.2]; exact hok.1 n.toNat) m _ (by rw [hok.2]; omega)
theorem same_l0 (l : List Int) (hl : l.length ≤ 1000000) : ∀ (d k i : Nat), i + d = l.length → d < k → gramaryebase_SameInts.l0 k l l (i : Int) = some true
  | 0, k, i, h1, h2 => by
    obtain ⟨k, rfl⟩ : ∃ m, k = m + 1 := ⟨k - 1, by omega⟩
    rw [gramaryebase_SameInts.l0, if_neg (by omega)]
  | d + 1, k, i, h1, h2 => by
    obtain ⟨k, rfl⟩ : ∃ m, k = m + 1 := ⟨k - 1, by omega⟩
    rw [gramaryebase_SameInts.l0, if_pos (by omega), if_pos (by omega), if_pos (by omega), if_pos rfl, w1 i (by omega)]
    exact same_l0 l hl d k (i + 1) (by omega) (by omega)
theorem ev_same (l : List Int) (hl : l.length ≤ 1000000) : Ev (fun k => gramaryebase_SameInts.f k l l) true := ⟨l.length + 1, fun k hk => by
  show gramaryebase_SameInts.f k l l = some true
  unfold gramaryebase_SameInts.f
  rw [if_pos rfl]
  exact same_l0 l hl l.length k 0 (by omega) (by omega)⟩
theorem works_is : Ev (fun k => gramaryelaw11_works.f k) true := Ev.of (fun k => gramaryelaw11_works.mono k) (k := 20) (by decide +kernel)
structure Begun (t l : Int) (o : List Int) (L : List S51) (o' : List Int) (L' : List S51) : Prop where
  few : Ev (fun k => gramaryelaw11_few.f k t l o L) (t, l, o', L')
  few2 : Ev (fun k => gramaryelaw11_few.f k t l o' L') (t, l, o', L')
  small : Small 40 60 o' L'
  may : Ev (fun k => gramaryeref09_May.f k t l o' L') (bnf_mayB t l o' L')
  non : bnf_mayB t l o' L' = 0 → ∃ mk, mk.length = o'.length ∧ empty_Nothing.f t l o' L' = some (mk, 0) ∧ Ev (fun k => gramaryeref10_Nothing.f k t l o' L') mk
theorem begun (t l : Int) (o : List Int) (L : List S51) : ∃ o' L', Begun t l o L o' L' := by
  have hs := few_small 10 20 o L
  have hfew : ∀ k, 20000 ≤ k → gramaryeref09_Few.f k t l o L 10 20 = some (t, l, o.take 10, (L.take 20).map cut8) := fun k hk => few_is 10 20 (by omega) (by omega) t l o L k (by omega)
  have hfew2 : ∀ k, 20000 ≤ k → gramaryeref09_Few.f k t l (o.take 10) ((L.take 20).map cut8) 10 20 = some (t, l, o.take 10, (L.take 20).map cut8) := fun k hk => by
    have := few_is 10 20 (by omega) (by omega) t l (o.take 10) ((L.take 20).map cut8) k (by omega)
    rwa [few_again, List.take_take, Nat.min_self] at this
  generalize o.take 10 = o' at hs hfew hfew2
  generalize (L.take 20).map cut8 = L' at hs hfew hfew2
  have hs' : Small 40 60 o' L' := ⟨by have := hs.o; omega, by have := hs.l; omega, hs.r⟩
  refine ⟨o', L', ⟨20000, fun k hk => ?_⟩, ⟨20000, fun k hk => ?_⟩, hs', ⟨20000, fun k hk => may_is (by omega) (by omega) t l o' L' hs' k hk⟩, fun hm => ?_⟩
  · show gramaryelaw11_few.f k t l o L = _
    unfold gramaryelaw11_few.f
    rw [hfew k hk]; rfl
  · show gramaryelaw11_few.f k t l o' L' = _
    unfold gramaryelaw11_few.f
    rw [hfew2 k hk]; rfl
  · obtain ⟨x, hx, x2, xa, xs⟩ := marks_ok false hm hs'
    obtain ⟨x', ⟨K1, hx'⟩, x2', xa', xs'⟩ := ref_marks false hm hs'
    have ex : x = x' := stateB_eq (by rw [x2, x2']) (fun i => unique xa xs xa' xs' i)
    subst ex
    rw [← is_nothing] at hx
    exact ⟨x, x2, hx, K1, fun k hk => by
      show gramaryeref10_Nothing.f k t l o' L' = _
      unfold gramaryeref10_Nothing.f
      rw [show gramaryeref10_mark.f k t l o' L' false = some x from hx' k hk]; rfl⟩
theorem begins_is {t l : Int} {o : List Int} {L : List S51} (hm : bnf_mayB t l o L = 0) {mk : List Bool} (hmk : mk.length = o.length) (hE : empty_Nothing.f t l o L = some (mk, 0)) (n m : Int) :
    ∃ b, reach_Begins.f t l o L n m = some b ∧ (b = true ↔ (0 ≤ n ∧ n < (o.length : Int)) ∧ (0 ≤ m ∧ m < (o.length : Int)) ∧ Beg mk o L n m) := by
  unfold reach_Begins.f
  have e : thereB t l o L [n, m] = true ↔ (0 ≤ n ∧ n < (o.length : Int)) ∧ (0 ≤ m ∧ m < (o.length : Int)) := by
    unfold thereB outB
    rw [decide_eq_true hm, Bool.true_and]
    simp only [List.any_cons, List.any_nil, Bool.or_false, Bool.not_eq_true', Bool.or_eq_false_iff, decide_eq_false_iff_not]
    omega
  by_cases c : thereB t l o L [n, m] = true
  · rw [if_pos c, hE]
    simp only [Option.bind_some]
    rw [if_pos hmk]
    obtain ⟨b, h1, h2⟩ := to_begins hm mk n m
    exact ⟨b, h1, by rw [h2]; exact ⟨fun h => ⟨(e.1 c).1, (e.1 c).2, h⟩, fun h => h.2.2⟩⟩
  · rw [if_neg c]
    exact ⟨false, rfl, ⟨(fun h => by cases h), fun h => absurd (e.2 ⟨h.1, h.2.1⟩) c⟩⟩
theorem left_both {t l : Int} {o : List Int} {L : List S51} (hm : bnf_mayB t l o L = 0) (hs : Small 40 60 o L) {mk : List Bool} (hmk : mk.length = o.length) (hN : Ev (fun k => gramaryeref10_Nothing.f k t l o L) mk) : ∀ (d i : Nat) (acc : List Int), i + d = o.length → acc.length ≤ i →
    ∃ r, leftG (begG mk o L) (o.length + 2) d i acc = some r ∧ Ev (fun k => gramaryeref11_Left.l0 k acc (i : Int) t l o L) r ∧ r.length ≤ o.length
  | 0, i, acc, h1, h2 => ⟨acc, rfl, ⟨1, fun k hk => by
      obtain ⟨k, rfl⟩ : ∃ m, k = m + 1 := ⟨k - 1, by omega⟩
      show gramaryeref11_Left.l0 (k + 1) acc (i : Int) t l o L = _
      rw [gramaryeref11_Left.l0, if_neg (by omega)]⟩, by omega⟩
  | d + 1, i, acc, h1, h2 => by
    have ho := hs.o
    obtain ⟨b, b1, b2⟩ := to_begins hm mk (i : Int) (i : Int)
    obtain ⟨b', b3, b4⟩ := ref_begins hm hs hmk hN (i : Int) (i : Int) (by omega) (by omega)
    have e : b' = b := by
      rw [Bool.eq_iff_iff, b2, b4]
    subst e
    obtain ⟨r, r1, r2, r3⟩ := left_both hm hs hmk hN d (i + 1) (if b' = true then acc ++ [(i : Int)] else acc) (by omega) (by
      split
      · rw [List.length_append, List.length_singleton]; omega
      · omega)
    refine ⟨r, ?_, ?_, r3⟩
    · rw [leftG]
      rw [Int.toNat_natCast] at b1
      rw [b1]
      exact r1
    · refine Ev.step (f := fun k => (gramaryeref11_Begins.f k t l o L (i : Int) (i : Int)).bind fun b => if b = true then (if acc.length < 17592186044416 then gramaryeref11_Left.l0 k (acc ++ [(i : Int)]) ((i + 1 : Nat) : Int) t l o L else none) else gramaryeref11_Left.l0 k acc ((i + 1 : Nat) : Int) t l o L) (fun k => by
        rw [gramaryeref11_Left.l0, if_pos (by omega), w1 i (by omega)]) ?_
      refine Ev.bind b3 (Ev.congr (fun k => ?_) r2)
      cases b' with
      | true => rw [if_pos rfl, if_pos rfl, if_pos (by omega)]
      | false => rw [if_neg (by decide), if_neg (by decide)]
theorem ReachLeft : gramaryelaw11_ReachLeft.PureG := by
  intro t l o L n m _ _ _ _ _ _
  obtain ⟨o', L', hb⟩ := begun t l o L
  have ho := hb.small.o
  refine Ev.rounds (Ev.bind (f := fun k _ => _) hb.few (Ev.bind (f := fun k _ => _) hb.few2 ?_))
  by_cases hm : bnf_mayB t l o' L' = 0
  · obtain ⟨mk, hmk, hE, hN⟩ := hb.non hm
    obtain ⟨r, r1, r2, r3⟩ := left_both hm hb.small hmk hN o'.length 0 [] (by omega) (by simp)
    obtain ⟨b, b1, b2⟩ := begins_is hm hmk hE n m
    have hL : reach_Left.f t l o' L' = some (r, 0) := by
      unfold reach_Left.f
      rw [if_pos hm, hE]
      simp only [Option.bind_some]
      rw [if_pos hmk, r1]; rfl
    have hj : ∀ q : Bool, (q = true ↔ (0 ≤ n ∧ n < (o'.length : Int)) ∧ (0 ≤ m ∧ m < (o'.length : Int))) → Ev (fun k => gramaryelaw11_ReachLeft.j0 k n m r 0 b q t l o' L') true := by
      intro q hq
      refine Ev.step (f := fun k => (gramaryeref11_Left.f k t l o' L').bind fun t302 => ((gramaryebase_SameInts.f k r t302).bind fun t305 => (if t305 = true then (if q = true then ((gramaryeref11_Begins.f k t l o' L' n m).bind fun t306 => (if (b == t306) = true then ((gramaryelaw11_works.f k).bind fun t307 => (some t307)) else (some false))) else (if (b == false) = true then ((gramaryelaw11_works.f k).bind fun t308 => (some t308)) else (some false))) else (some false)))) (fun k => by rw [gramaryelaw11_ReachLeft.j0, if_pos rfl]) ?_
      refine Ev.bind (f := fun k t302 => (gramaryebase_SameInts.f k r t302).bind _) (show Ev (fun k => gramaryeref11_Left.f k t l o' L') r from r2) (Ev.bind (f := fun k t305 => _) (ev_same r (by omega)) ?_)
      simp only [if_true]
      cases q with
      | true =>
        have hh := hq.1 rfl
        obtain ⟨b', c1, c2⟩ := ref_begins hm hb.small hmk hN n m hh.1.1 hh.1.2
        have e : b' = b := by
          rw [Bool.eq_iff_iff, b2, c2]
          exact ⟨fun h => ⟨hh.1, hh.2, h⟩, fun h => h.2.2⟩
        subst e
        simp only [if_true]
        refine Ev.bind (f := fun k t306 => if (b' == t306) = true then _ else _) c1 ?_
        simp only [beq_self_eq_true, if_true]
        exact Ev.bind (f := fun _ x => some x) works_is (Ev.now _)
      | false =>
        have e : b = false := by
          cases b with
          | false => rfl
          | true => exact absurd (hq.2 ⟨(b2.1 rfl).1, (b2.1 rfl).2.1⟩) (by decide)
        subst e
        simp only [Bool.false_eq_true, if_false, beq_self_eq_true, if_true]
        exact Ev.bind (f := fun _ x => some x) works_is (Ev.now _)
    simp only [hL, Option.bind_some]
    refine Ev.bind (f := fun k _ => _) hb.few2 ?_
    simp only [b1, Option.bind_some]
    refine Ev.bind (f := fun k t300 => _) hb.may ?_
    simp only [if_pos hm]
    by_cases c1 : n ≥ 0
    · simp only [if_pos c1]
      by_cases c2 : m ≥ 0
      · simp only [if_pos c2]
        by_cases c3 : n < (o'.length : Int)
        · simp only [if_pos c3]
          exact hj _ (by rw [decide_eq_true_iff]; omega)
        · simp only [if_neg c3]
          exact hj false ⟨(fun h => by cases h), fun h => by omega⟩
      · simp only [if_neg c2]
        exact hj false ⟨(fun h => by cases h), fun h => by omega⟩
    · simp only [if_neg c1]
      exact hj false ⟨(fun h => by cases h), fun h => by omega⟩
  · have hL : reach_Left.f t l o' L' = some ([], bnf_mayB t l o' L') := by
      unfold reach_Left.f
      rw [if_neg hm]
    have hB : reach_Begins.f t l o' L' n m = some false := by
      unfold reach_Begins.f thereB
      rw [decide_eq_false hm, Bool.false_and, if_neg (by decide)]
    simp only [hL, Option.bind_some]
    refine Ev.bind (f := fun k _ => _) hb.few2 ?_
    simp only [hB, Option.bind_some]
    refine Ev.bind (f := fun k t300 => _) hb.may ?_
    simp only [if_neg hm, if_true, List.length_nil, Bool.false_eq_true, if_false]
    simp only [show (((0 : Nat) : Int) = 0) = True by simp, if_true]
    exact Ev.bind (f := fun _ x => some x) works_is (Ev.now _)
end Go.Proofs.Ytmpdilifoblnaaa.Pure
end
section
namespace Go.Proofs.Ytmpdilifoblnaaa.reachLeft
open Go.ChangeShapes Go.WideShapes Go.ChangeAt Go.RowKit Go.Proofs.Ytmpdilifoblnaaa.MReachLeft Go.Proofs.YtmpdilifoblnaaaW.PrintWords Go.Proofs.Ytmpdilifoblnaaa.Reads
open Go.ChangeMaps (open_string shut_string)
set_option linter.unusedVariables false
set_option linter.unusedSimpArgs false
theorem own : ownKnob Try.prog.godebug = none := by kernel_rfl
theorem laidOut : laidOutB Try.prog = true := by kernel_rfl
set_option maxRecDepth 100000 in
theorem contract (H : Type) (enc : TypeId × Value → H) (W : World) (base : Nat) (args : Array Value) (ds gs : List (DataW H)) (before : List MemPlace)
    (hval : ∀ (j : Nat) t v, Try.f7.params[j]? = some t → args[j]? = some v → Value.okWide Try.prog W .any base t v)
    (hW : DataW.Whole enc Try.prog Try.f7.params.toList Rows.reachLeftSpec.vars false W args.toList ds gs before)
    (hsz : (DataW.weightsEach Try.prog (Try.f7.params.toList ++ Rows.reachLeftSpec.plain.varTypes Try.prog) (ds ++ gs)).all (· ≤ reachBytes) = true) :
    Calls Try.prog 7 args W fun e W' => ∃ v, e = .returned v ∧ Rows.reachLeftSpec.post enc Try.prog Try.f7 false true false false W args v W' := by
  have hW' := hW
  obtain ⟨p, q, hA0, hV, rfl, hfz, hnd⟩ := hW
  have hA : DataW.TrodAll enc Try.prog W 0 (fun _ => true) true Try.f7.params.toList args.toList ds p := hA0
  rw [Try.params7] at hA hval hsz
  obtain ⟨v0, vs0, d0, ds0, p0, q0, hargs, rfl, rfl, h0, r0⟩ := trodAll_cons hA
  obtain ⟨v1, vs1, d1, ds1, p1, q1, rfl, rfl, rfl, h1, r1⟩ := trodAll_cons r0
  obtain ⟨v2, vs2, d2, ds2, p2, q2, rfl, rfl, rfl, h2, r2⟩ := trodAll_cons r1
  obtain ⟨rfl, rfl, rfl⟩ := trodAll_nil r2
  obtain rfl : args = #[v0, v1, v2] := by cases args; simp_all
  obtain ⟨rfl, rfl⟩ := trodVars_none hV
  have k0 := h0
  have lt0 : ∀ x ∈ p0, x.block < W.heap.size := by obtain ⟨m, hm⟩ := k0; exact DataW.trod_lt m _ _ _ hm
  have z0 := weights_at hsz (j := 0) (t := 25) rfl rfl
  obtain ⟨x0, hK0, hG0⟩ := open_at (fits_struct Try.underlying25 (by kernel_rfl) (fitsF_cons 0 (fits_int Try.prog .i64 Try.underlying3) rfl (by kernel_rfl) (fitsF_cons 1 (fits_int Try.prog .i64 Try.underlying3) rfl (by kernel_rfl) (fitsF_cons 2 (fits_slice 3 8 Try.underlying22 (by kernel_rfl) (by kernel_rfl) (fits_int Try.prog .i64 Try.underlying3)) rfl (by kernel_rfl) (fitsF_one 3 (fits_slice 51 32 Try.underlying23 (by kernel_rfl) (by kernel_rfl) fits51) rfl (by kernel_rfl)))))) h0 z0
  have hO0 : ∃ A0_0 c0_0 A0_1 c0_1, v0.cells.toList = [.int .i64 x0.1, .int .i64 x0.2.1, .slice A0_0 x0.2.2.1.length c0_0, .slice A0_1 x0.2.2.2.length c0_1] ∧ x0.2.2.1.length ≤ c0_0 ∧ Kd.C (Kd.int .i64) W A0_0 x0.2.2.1.length x0.2.2.1 ∧ x0.2.2.2.length ≤ c0_1 ∧ Kd.C k51 W A0_1 x0.2.2.2.length x0.2.2.2 := by
    obtain ⟨_, _, hq_, rfl, ⟨_, _, rfl, rfl, ⟨_, _, rfl, ⟨A0_0, c0_0, rfl, l0_0, g0_0⟩, ⟨A0_1, c0_1, rfl, l0_1, g0_1⟩⟩⟩⟩ := hK0
    exact ⟨A0_0, c0_0, A0_1, c0_1, hq_, l0_0, g0_0, l0_1, g0_1⟩
  obtain ⟨A0_0, c0_0, A0_1, c0_1, hcs0, l0_0, g0_0, l0_1, g0_1⟩ := hO0
  obtain ⟨cs0, rfl, hsize0⟩ := okWide_struct Try.underlying25 (hval 0 25 v0 rfl rfl)
  obtain rfl : cs0 = #[.int .i64 x0.1, .int .i64 x0.2.1, .slice A0_0 x0.2.2.1.length c0_0, .slice A0_1 x0.2.2.2.length c0_1] := Array.toList_inj.1 hcs0
  obtain ⟨hG0_0, hG0_1, hG0_2, hG0_3⟩ := hG0
  have k1 := h1
  have lt1 : ∀ x ∈ p1, x.block < W.heap.size := by obtain ⟨m, hm⟩ := k1; exact DataW.trod_lt m _ _ _ hm
  have z1 := weights_at hsz (j := 1) (t := 3) rfl rfl
  obtain ⟨a1, rfl, rfl, rfl, hG1⟩ := open_int Try.underlying3 (hval 1 3 v1 rfl rfl) h1
  have k2 := h2
  have lt2 : ∀ x ∈ p2, x.block < W.heap.size := by obtain ⟨m, hm⟩ := k2; exact DataW.trod_lt m _ _ _ hm
  have z2 := weights_at hsz (j := 2) (t := 3) rfl rfl
  obtain ⟨a2, rfl, rfl, rfl, hG2⟩ := open_int Try.underlying3 (hval 2 3 v2 rfl rfl) h2
  clear hA0 hval hsz
  obtain ⟨k, h⟩ := Pure.ReachLeft (x0.1) (x0.2.1) (x0.2.2.1) (x0.2.2.2) a1 a2 hG0_0 hG0_1 hG0_2 hG0_3 hG1 hG2
  refine (gramaryelaw11_ReachLeft.calls k (x0.1) (x0.2.1) A0_0 c0_0 (x0.2.2.1) A0_1 c0_1 (x0.2.2.2) a1 a2 true W g0_0 l0_0 g0_1 l0_1 h).mono fun e W' ⟨he, bel0⟩ => ?_
  have bel : Below W.heap.size W W' := bel0
  subst he
  exact ⟨_, rfl, _, _, _, [], _, [], hW', trodAll_mk1 (shut_bool Try.underlying4 _), (trodAll_cons_mk (Below.trod laidOut (by kernel_rfl) (of_decide_eq_true (by kernel_rfl)) k0 bel lt0) (trodAll_cons_mk (Below.trod laidOut (by kernel_rfl) (of_decide_eq_true (by kernel_rfl)) k1 bel lt1) (trodAll_cons_mk (Below.trod laidOut (by kernel_rfl) (of_decide_eq_true (by kernel_rfl)) k2 bel lt2) trodAll_mk0))), rfl, bel.frame _, fun h => by cases h⟩
set_option maxRecDepth 100000 in
theorem lifted (os : Os) (started : os.Started) (H : Type) (enc : TypeId × Value → H) :
    ReturnsInHanded {} Try.checked os 7 .any (Rows.reachLeftSpec.pre6 enc Try.prog Try.f7 Rows.reachLeftRow.domain false) (Rows.reachLeftSpec.post enc Try.prog Try.f7 false true false false) := by
  refine returnsInHanded_of_change_sized (C := Try.checked) own started (by kernel_rfl) Try.func7
    (ChangeSpec.witness6 (enc := enc) (C := Try.checked) false ⟨#[], #[.agg #[.int .i64 0, .int .i64 0, .slice none 0 0, .slice none 0 0], .int .i64 0, .int .i64 0], []⟩ 8 (by kernel_rfl) (by kernel_rfl) (by kernel_rfl) (by kernel_rfl)) ?_
  intro W base args ds gs before hval hW hcnd hsz _
  exact contract H enc W base args ds gs before hval hW hsz
theorem over : Rows.reachLeftRow.holds Try.pinned (OpenSpec.ofChange Rows.reachLeftSpec) :=
  OpenClaim.holds_of_wide 7 Try.f7 rfl rfl rfl rfl rfl rfl rfl ⟨rfl, rfl, rfl, rfl, rfl⟩ rfl rfl rfl rfl rfl (by kernel_rfl) Try.func7 (by kernel_rfl)
    (of_decide_eq_true (by kernel_rfl)) (by unfold Func.isWrapper; first | (rw [if_pos (by decide +kernel)]; kernel_rfl) | (rw [if_neg (by decide +kernel)]; exact ⟨rfl, rfl⟩))
    (fun os started H enc _ => lifted os started H enc)
theorem proved : Rows.ReachLeftSaid := over
end Go.Proofs.Ytmpdilifoblnaaa.reachLeft
namespace Go.Proofs.Ytmpdilifoblnaaa
theorem reachLeft_holds : Rows.ReachLeftSaid := reachLeft.proved
end Go.Proofs.Ytmpdilifoblnaaa
end
