/-  -/
import Derived.Test.YtmpdilifoblnaaaZReachWaysx0
section
namespace Go.Proofs.Ytmpdilifoblnaaa.MReachWays
open Go.RowKit Go.Proofs.YtmpdilifoblnaaaW.PrintWords Go.Proofs.YtmpdilifoblnaaaW.PrintLast Go.Proofs.YtmpdilifoblnaaaW.PrintMore Go.Proofs.Ytmpdilifoblnaaa.Fun Go.Proofs.Ytmpdilifoblnaaa.Mem
attribute [local go_sem] max2_int min2_int max_two min_two max_three min_three max_four min_four
set_option linter.unusedVariables false
set_option linter.unusedSimpArgs false
def gramaryelaw11_few.f (k : Nat) (a0_0 : Int) (a0_1 : Int) (l0_2 : List Int) (l0_3 : List (S51)) : Option (Int × Int × List Int × (List (S51))) := (gramaryeref09_Few.f k a0_0 a0_1 l0_2 l0_3 10 20).bind fun bt137 => (some (bt137.1, bt137.2.1, bt137.2.2.1, bt137.2.2.2))
set_option maxHeartbeats 8000000 in
set_option maxRecDepth 100000 in
theorem gramaryelaw11_few.calls (k : Nat) (a0_0 : Int) (a0_1 : Int) (A0_2 : Option Addr) (c0_2 : Nat) (l0_2 : List Int) (A0_3 : Option Addr) (c0_3 : Nat) (l0_3 : List (S51)) (r1 : Int) (r2 : Int) (r3 : List Int) (r4 : List (S51)) (w : World) (hr0_2 : Kd.C (Kd.int .i64) w A0_2 l0_2.length l0_2) (hc0_2 : l0_2.length ≤ c0_2) (hr0_3 : Kd.C k51 w A0_3 l0_3.length l0_3) (hc0_3 : l0_3.length ≤ c0_3) (h : gramaryelaw11_few.f k a0_0 a0_1 l0_2 l0_3 = some (r1, r2, r3, r4)) :
    Calls Try.prog 23 #[.agg #[.int .i64 a0_0, .int .i64 a0_1, .slice A0_2 l0_2.length c0_2, .slice A0_3 l0_3.length c0_3]] w fun e w' => ∃ v2_ v3_ : Value, e = .returned (.agg #[.int .i64 r1, .int .i64 r2, v2_, v3_]) ∧ Kd.R (Kd.int .i64) 3 w' w.heap.size (fun _ => True) v2_ r3 ∧ Kd.S k51 51 w' w.heap.size (fun _ => True) v3_ r4 ∧ Below w.heap.size w w' := by
  have hu25 := Try.underlying25
  have HR0_2 := Aside0.mk hr0_2
  have HC0_2 := Aside0.mk hc0_2
  clear hr0_2 hc0_2
  have HR0_3 := Aside0.mk hr0_3
  have HC0_3 := Aside0.mk hc0_3
  clear hr0_3 hc0_3
  have HB := Aside0.mk (Below.refl w.heap.size w)
  have H : ((gramaryeref09_Few.f k a0_0 a0_1 l0_2 l0_3 10 20).bind fun bt137 => (some (bt137.1, bt137.2.1, bt137.2.2.1, bt137.2.2.2))) = some (r1, r2, r3, r4) := h
  clear h
  replace H := Option.bind_eq_some_iff.mp H
  obtain ⟨⟨t137, t138, t139, t142⟩, A20, H⟩ := H
  replace H : (some (t137, t138, t139, t142)) = some (r1, r2, r3, r4) := H
  have A2 := Aside0.mk A20
  clear A20
  simp only [Option.some.injEq, Prod.mk.injEq] at H
  obtain ⟨rfl, rfl, rfl, rfl⟩ := H
  go_enter Try.func23, Try.ntmps23
  go_wp2_with (first | ((with_reducible refine gate_dst (N := 1) rfl ?_); refine box_event ?hg (N := 1) ?hd (cs := #[.int .i64 a0_0, .int .i64 a0_1, .slice A0_2 l0_2.length c0_2, .slice A0_3 l0_3.length c0_3]) (t := 25) ?hr ?_; (case hd => rfl); (case hg => rfl); (case hr => first | (go_simp; done) | (go_simp; rfl)); intro gb135 hg w3 hbox hb; have n0_ := Aside0.mk (below_step (by repeat (first | (with_reducible first | exact HB.out | apply below_alloc | apply pw_below_drewN | apply below_drew1) | exact HB.out)) hb); have n1_ := Aside0.mk (hbox); have n2_ := Aside0.mk ((by rw [hg]; exact (below_size (by repeat (first | (with_reducible first | exact HB.out | apply below_alloc | apply pw_below_drewN | apply below_drew1) | exact HB.out))) : w.heap.size ≤ gb135)); have n3_ := Aside0.mk ((by rw [hg]; exact (below_size (by repeat (first | (with_reducible first | exact HB.out | apply below_alloc | apply pw_below_drewN | apply below_drew1) | exact HB.out))) : w.heap.size ≤ gb135)); clear HB; have HB := n0_; have BK135 := n1_; have GW135 := n2_; have GE135 := n3_; clear n0_ n1_ n2_ n3_; clear hb hbox hg) | ((with_reducible refine gate_dst (N := 2) rfl ?_); refine box_event ?hg (N := 2) ?hd (cs := #[.int .i64 0, .int .i64 0, .slice none 0 0, .slice none 0 0]) (t := 25) ?hr ?_; (case hd => rfl); (case hg => rfl); (case hr => first | (go_simp; done) | (go_simp; rfl)); intro gb136 hg w4 hbox hb; have n0_ := Aside0.mk (blk_below (g := gb135) (o := .cells #[.int .i64 a0_0, .int .i64 a0_1, .slice A0_2 l0_2.length c0_2, .slice A0_3 l0_3.length c0_3] 25 (0, 0)) (by (with_reducible repeat (first | refine blk_drewN ?_ _ | refine blk_drew ?_ | refine blk_alloc ?_ _)); exact BK135.out) hb); have n1_ := Aside0.mk (below_step (by repeat (first | (with_reducible first | exact HB.out | apply below_alloc | apply pw_below_drewN | apply below_drew1 | refine below_set ?_ GE135.out) | exact HB.out)) hb); have n2_ := Aside0.mk (hbox); have n3_ := Aside0.mk ((by rw [hg]; exact (below_size (by repeat (first | (with_reducible first | exact HB.out | apply below_alloc | apply pw_below_drewN | apply below_drew1 | refine below_set ?_ GE135.out) | exact HB.out))) : w.heap.size ≤ gb136)); have n4_ := Aside0.mk ((by rw [hg]; exact (below_size (by repeat (first | (with_reducible first | exact HB.out | apply below_alloc | apply pw_below_drewN | apply below_drew1 | refine below_set ?_ GE135.out) | exact HB.out))) : w.heap.size ≤ gb136)); have n5_ := Aside0.mk ((by rw [hg]; exact Nat.ne_of_lt (blk_lt (g := gb135) (o := .cells #[.int .i64 a0_0, .int .i64 a0_1, .slice A0_2 l0_2.length c0_2, .slice A0_3 l0_3.length c0_3] 25 (0, 0)) (by (with_reducible repeat (first | refine blk_drewN ?_ _ | refine blk_drew ?_ | refine blk_alloc ?_ _)); exact BK135.out)) : gb135 ≠ gb136)); have n6_ := Aside0.mk ((by rw [hg]; exact Nat.ne_of_gt (blk_lt (g := gb135) (o := .cells #[.int .i64 a0_0, .int .i64 a0_1, .slice A0_2 l0_2.length c0_2, .slice A0_3 l0_3.length c0_3] 25 (0, 0)) (by (with_reducible repeat (first | refine blk_drewN ?_ _ | refine blk_drew ?_ | refine blk_alloc ?_ _)); exact BK135.out)) : gb136 ≠ gb135)); clear BK135; clear HB; have BK135 := n0_; have HB := n1_; have BK136 := n2_; have GW136 := n3_; have GE136 := n4_; have NB135_136 := n5_; have NB136_135 := n6_; clear n0_ n1_ n2_ n3_ n4_ n5_ n6_; clear hb hbox hg; have hnb5 := NB135_136.out; have hnc5 := NB136_135.out; have hcz6_0 : w4.cell? ⟨gb135, 0, none⟩ = some (.int .i64 a0_0) := (blk_cell BK135.out 0).trans rfl; have hcz6_1 : w4.cell? ⟨gb135, 1, none⟩ = some (.int .i64 a0_1) := (blk_cell BK135.out 1).trans rfl; have hcz6_2 : w4.cell? ⟨gb135, 2, none⟩ = some (.slice A0_2 l0_2.length c0_2) := (blk_cell BK135.out 2).trans rfl; have hcz6_3 : w4.cell? ⟨gb135, 3, none⟩ = some (.slice A0_3 l0_3.length c0_3) := (blk_cell BK135.out 3).trans rfl; have hfz6_0 := blk_frozen BK135.out 0; have hfz6_1 := blk_frozen BK135.out 1; have hfz6_2 := blk_frozen BK135.out 2; have hfz6_3 := blk_frozen BK135.out 3) | ((with_reducible refine gate_callee (f := 10) rfl ?_); refine goesL_ (some 4) rfl rfl Try.func10 (by kernel_rfl) rfl #[.agg #[.int .i64 a0_0, .int .i64 a0_1, .slice A0_2 l0_2.length c0_2, .slice A0_3 l0_3.length c0_3], .int .i64 10, .int .i64 20] rfl (by (try simp only [List.map_toArray, List.map_cons, List.map_nil]); first | done | rfl | (simp only [List.length_drop, List.length_take]; rfl)) ?_; (with_reducible refine (gramaryeref09_Few.calls k a0_0 a0_1 _ _ l0_2 _ _ l0_3 10 20 t137 t138 t139 t142 _ ?side1 ?side2 ?side3 ?side4 A2.out).mono ?_); (case side1 => repeat (first | exact (Kd.C_below HR0_2.out HB.out) | (with_reducible refine Kd.C_alloc ?_ _) | (with_reducible refine Kd.C_drewN ?_ _) | (with_reducible refine Kd.C_drew ?_))); (case side2 => exact HC0_2.out); (case side3 => repeat (first | exact (Kd.C_below HR0_3.out HB.out) | (with_reducible refine Kd.C_alloc ?_ _) | (with_reducible refine Kd.C_drewN ?_ _) | (with_reducible refine Kd.C_drew ?_))); (case side4 => exact HC0_3.out); rintro e w7 ⟨v140, v143, rfl, ho0, ho1, hb⟩; refine ⟨_, rfl, ?_⟩; have n0_ := Aside0.mk (Kd.R_lower ho0 (below_size (by repeat (first | (with_reducible first | exact HB.out | apply below_alloc | apply pw_below_drewN | apply below_drew1 | refine below_set ?_ GE135.out | refine below_set ?_ GE136.out) | exact HB.out)))); have n1_ := Aside0.mk (Kd.S_lower ho1 (below_size (by repeat (first | (with_reducible first | exact HB.out | apply below_alloc | apply pw_below_drewN | apply below_drew1 | refine below_set ?_ GE135.out | refine below_set ?_ GE136.out) | exact HB.out)))); have n2_ := Aside0.mk (blk_below (g := gb135) (o := .cells #[.int .i64 a0_0, .int .i64 a0_1, .slice A0_2 l0_2.length c0_2, .slice A0_3 l0_3.length c0_3] 25 (0, 0)) (by (with_reducible repeat (first | refine blk_drewN ?_ _ | refine blk_drew ?_ | refine blk_alloc ?_ _)); exact BK135.out) hb); have n3_ := Aside0.mk (blk_below (g := gb136) (o := .cells #[.int .i64 0, .int .i64 0, .slice none 0 0, .slice none 0 0] 25 (0, 0)) (by (with_reducible repeat (first | refine blk_drewN ?_ _ | refine blk_drew ?_ | refine blk_alloc ?_ _)); exact BK136.out) hb); have n4_ := Aside0.mk (below_step (by repeat (first | (with_reducible first | exact HB.out | apply below_alloc | apply pw_below_drewN | apply below_drew1 | refine below_set ?_ GE135.out | refine below_set ?_ GE136.out) | exact HB.out)) hb); clear BK135; clear BK136; clear HB; have HO141 := n0_; have HO144 := n1_; have BK135 := n2_; have BK136 := n3_; have HB := n4_; clear n0_ n1_ n2_ n3_ n4_; (try clear hb); (try clear hb2); (try clear hk); (try clear hi); (try clear ho0); (try clear ho1); have hcz8_0 : w7.cell? ⟨gb136, 0, none⟩ = some (.int .i64 0) := (blk_cell BK136.out 0).trans rfl; have hcz8_1 : w7.cell? ⟨gb136, 1, none⟩ = some (.int .i64 0) := (blk_cell BK136.out 1).trans rfl; have hcz8_2 : w7.cell? ⟨gb136, 2, none⟩ = some (.slice none 0 0) := (blk_cell BK136.out 2).trans rfl; have hcz8_3 : w7.cell? ⟨gb136, 3, none⟩ = some (.slice none 0 0) := (blk_cell BK136.out 3).trans rfl; have hfz8_0 := blk_frozen BK136.out 0; have hfz8_1 := blk_frozen BK136.out 1; have hfz8_2 := blk_frozen BK136.out 2; have hfz8_3 := blk_frozen BK136.out 3; obtain ⟨Ao9, co9, eo9⟩ := Kd.R_slice HO141.out; subst eo9; obtain ⟨Ao10, co10, eo10⟩ := Kd.S_slice HO144.out; subst eo10))
  refine bodyPost_ret (results_cell_row rfl _ _ gb136 25 #[.int .i64 t137, .int .i64 t138, .slice Ao9 t139.length co9, .slice Ao10 t142.length co10] (0, 0) _ rfl (by (with_reducible repeat (first | refine blk_drewN ?_ _ | refine blk_drew ?_ | refine blk_alloc ?_ _)); refine blk_put (cs := #[.int .i64 t137, .int .i64 t138, .slice Ao9 t139.length co9, .slice none 0 0]) ?_ 3 _ rfl; (with_reducible repeat (first | refine blk_drewN ?_ _ | refine blk_drew ?_ | refine blk_alloc ?_ _)); refine blk_put (cs := #[.int .i64 t137, .int .i64 t138, .slice none 0 0, .slice none 0 0]) ?_ 2 _ rfl; (with_reducible repeat (first | refine blk_drewN ?_ _ | refine blk_drew ?_ | refine blk_alloc ?_ _)); refine blk_put (cs := #[.int .i64 t137, .int .i64 0, .slice none 0 0, .slice none 0 0]) ?_ 1 _ rfl; (with_reducible repeat (first | refine blk_drewN ?_ _ | refine blk_drew ?_ | refine blk_alloc ?_ _)); refine blk_put (cs := #[.int .i64 0, .int .i64 0, .slice none 0 0, .slice none 0 0]) ?_ 0 _ rfl; (with_reducible repeat (first | refine blk_drewN ?_ _ | refine blk_drew ?_ | refine blk_alloc ?_ _)); exact BK136.out) Try.underlying25 rfl (by kernel_rfl)) rfl ?_
  exact ⟨_, _, by first | rfl | (simp [errW_none, errW_some] <;> rfl) | (simp [*, errW_none, errW_some] <;> rfl), by (with_reducible repeat (first | apply Kd.R_alloc | apply Kd.R_drewN | apply Kd.R_drew)); exact Kd.R_mono (Kd.R_far (p := ⟨gb136, 3, none⟩) (Kd.R_far (p := ⟨gb136, 2, none⟩) (Kd.R_far (p := ⟨gb136, 1, none⟩) (Kd.R_far (p := ⟨gb136, 0, none⟩) (Kd.R_types HO141.out BK136.out (by decide)) (fun _ hk => hk.2) (.int .i64 t137)) (fun _ hk => hk.2) (.int .i64 t138)) (fun _ hk => hk.2) (.slice Ao9 t139.length co9)) (fun _ hk => hk.2) (.slice Ao10 t142.length co10)) (fun _ hk => trivial), by (with_reducible repeat (first | apply Kd.S_alloc | apply Kd.S_drewN | apply Kd.S_drew)); exact Kd.S_mono (Kd.S_far (p := ⟨gb136, 3, none⟩) (Kd.S_far (p := ⟨gb136, 2, none⟩) (Kd.S_far (p := ⟨gb136, 1, none⟩) (Kd.S_far (p := ⟨gb136, 0, none⟩) (Kd.S_types HO144.out BK136.out (by decide)) (fun _ hk => hk.2) (.int .i64 t137)) (fun _ hk => hk.2) (.int .i64 t138)) (fun _ hk => hk.2) (.slice Ao9 t139.length co9)) (fun _ hk => hk.2) (.slice Ao10 t142.length co10)) (fun _ hk => trivial), by repeat (first | (with_reducible first | exact HB.out | apply below_alloc | apply pw_below_drewN | apply below_drew1 | refine below_set ?_ GE135.out | refine below_set ?_ GE136.out) | exact HB.out)⟩
def bnf_from1.f (a0 : Int) (a1 : Int) : Option (Bool) := if a0 ≥ 1 then (some (decide (a0 ≤ a1))) else (some false)
set_option maxHeartbeats 8000000 in
set_option maxRecDepth 100000 in
theorem bnf_from1.calls (a0 : Int) (a1 : Int) (r : Bool) (w : World) (h : bnf_from1.f a0 a1 = some r) :
    Calls Try.prog 61 #[.int .i64 a0, .int .i64 a1] w fun e w' => e = .returned (.bool r) ∧ Drawn0 w w' := by
  have H : (if a0 ≥ 1 then (some (decide (a0 ≤ a1))) else (some false)) = some r := h
  clear h
  by_cases c3 : a0 ≥ 1
  · rw [if_pos c3] at H
    have c3b0 : decide (1 ≤ a0) = true := decide_eq_true c3
    clear c3
    obtain rfl := Option.some.inj H
    go_enter Try.func61, Try.ntmps61
    go_wp2
    go_ret
    exact ⟨by first | rfl | (simp; done) | (simp [*]; done), by repeat (first | exact Drawn0.refl _ | apply Drawn0.step)⟩
  · rw [if_neg c3] at H
    have c3b0 : decide (1 ≤ a0) = false := decide_eq_false c3
    clear c3
    obtain rfl := Option.some.inj H
    go_enter Try.func61, Try.ntmps61
    go_wp2
    go_ret
    exact ⟨by first | rfl | (simp; done) | (simp [*]; done), by repeat (first | exact Drawn0.refl _ | apply Drawn0.step)⟩
set_option maxHeartbeats 2000000 in
theorem api_Prod_74.calls (A : Option Addr) (c : Nat) (l : List S51) (g : Nat) (lb : Array Value) (p : S51 → Bool) (w : World) (hC : k51.C w A l.length l) (hc : l.length ≤ c)
    (eg : ∀ args w, (callFunc g args).run Try.prog w = .ok (.enter g args) w) (hp : PredK Try.prog true k51 g lb p (· ∈ l) w) :
    Calls Try.prog 74 #[.slice A l.length c, .func (.func g) #[] lb] w fun e w' => e = .returned (.int .i64 (firstAt p l)) ∧ Below w.heap.size w w' := by
  have HC := Aside0.mk hC
  have HP := Aside0.mk hp
  have hbig : l.length ≤ 9223372036854775807 := hC.2.1
  clear hC hp
  go_enter Try.func74, Try.ntmps74
  go_wp2
  go_loopg [5, 8] l.length (fun gg _ s8 wr => ∃ kk : Nat, kk ≤ l.length ∧ l.length - kk ≤ gg ∧ s8 = .int .i64 kk ∧ Aside0 (Below w.heap.size w wr) ∧ Aside0 (∀ j, (hj : j < kk) → (hl : j < l.length) → p l[j] = false))
  case atStart => exact ⟨0, Nat.zero_le _, by omega, rfl, ⟨Below.refl _ w⟩, ⟨fun j hj => absurd hj (Nat.not_lt_zero _)⟩⟩
  case round =>
    obtain ⟨kk, hkk, hg, rfl, BW, A'⟩ := hrel
    by_cases hlt : kk < l.length
    · have hltz : (kk : Int) < (l.length : Int) := by omega
      obtain ⟨ad, cs, hA, hlen, hK, hcell⟩ := Kd.C_get (Kd.C_below HC.out BW.out) z51 (kk : Int) (by omega) (by omega)
      have hlen2 : cs.length = 2 := hlen
      obtain ⟨u0, u1, rfl⟩ : ∃ u0 u1, cs = [u0, u1] := by
        match cs, hlen2 with
        | [u0, u1], _ => exact ⟨u0, u1, rfl⟩
      have hx : l.getD (kk : Int).toNat z51 = l[kk] := by rw [Int.toNat_natCast, List.getD_eq_getElem?_getD, List.getElem?_eq_getElem hlt]; rfl
      rw [hx] at hK
      have hcall := HP.out wr l[kk] [u0, u1] BW.out hK (List.getElem_mem hlt)
      have hc0 : wr.cell? (ad.add (kk * 2)) = some u0 := by have := hcell 0 u0 rfl; rwa [Int.toNat_natCast, Nat.add_zero] at this
      have hc1 : wr.cell? ⟨(ad.add (kk * 2)).block, (ad.add (kk * 2)).off + 1, none⟩ = some u1 := by
        have := hcell 1 u1 rfl
        rw [Int.toNat_natCast] at this
        rw [← add_field _ _ 1 (by omega)]; exact this
      clear hcell hlen hlen2 hK hx
      subst hA
      generalize hq : p l[kk] = q at hcall
      have HQ := Aside0.mk hq
      clear hq
      have Hcall := Aside0.mk hcall
      clear hcall
      cases q with
      | true =>
        go_wp2_with fail
        refine Hcall.out.mono ?_
        rintro e w' ⟨rfl, hb'⟩
        go_wp2_with fail
        go_ret
        exact ⟨by rw [firstAt_hit hlt (fun j hj => A'.out j hj (by omega)) HQ.out]; rfl, below_step BW.out hb'⟩
      | false =>
        go_wp2_with fail
        refine Hcall.out.mono ?_
        rintro e w' ⟨rfl, hb'⟩
        go_wp2_with fail
        go_roundg (l.length - (kk + 1))
        case measure => omega
        case rel =>
          refine ⟨kk + 1, by omega, by omega, by go_num, ⟨below_step BW.out hb'⟩, ⟨fun j hj hl => ?_⟩⟩
          by_cases e : j = kk
          · subst e; exact HQ.out
          · exact A'.out j (by omega) hl
    · have hltz : ¬ (kk : Int) < (l.length : Int) := by omega
      have hkl : l.length = kk := by omega
      go_wp2
      go_ret
      exact ⟨by rw [firstAt_miss (fun j hj => A'.out j (by omega) hj)]; rfl, BW.out⟩
set_option maxHeartbeats 2000000 in
theorem api_Prod_62.calls (A : Option Addr) (c : Nat) (l : List S51) (g : Nat) (lb : Array Value) (p : S51 → Bool) (w : World) (hC : k51.C w A l.length l) (hc : l.length ≤ c)
    (eg : ∀ args w, (callFunc g args).run Try.prog w = .ok (.enter g args) w) (hp : PredK Try.prog true k51 g lb p (· ∈ l) w) :
    Calls Try.prog 62 #[.slice A l.length c, .func (.func g) #[] lb] w fun e w' => e = .returned (.bool (l.any p)) ∧ Below w.heap.size w w' := by
  have H := Aside0.mk (api_Prod_74.calls A c l g lb p w hC hc eg hp)
  have E := Aside0.mk (firstAt_any p l)
  clear hC hp
  generalize firstAt p l = q at H E
  go_enter Try.func62, Try.ntmps62
  go_wp2_with fail
  refine H.out.mono ?_
  rintro e w' ⟨rfl, hb'⟩
  go_wp2_with fail
  go_ret
  exact ⟨by rw [← E.out]; rfl, hb'⟩
def bnf_long.f (a0_0 : Int) (l0_1 : List (S59)) : Option (Bool) := some (decide ((l0_1.length : Int) > 500))
set_option maxHeartbeats 8000000 in
set_option maxRecDepth 100000 in
theorem bnf_long.calls (a0_0 : Int) (A0_1 : Option Addr) (c0_1 : Nat) (l0_1 : List (S59)) (r : Bool) (w : World) (hr0_1 : Kd.C k59 w A0_1 l0_1.length l0_1) (hc0_1 : l0_1.length ≤ c0_1) (h : bnf_long.f a0_0 l0_1 = some r) :
    Calls Try.prog 63 #[.agg #[.int .i64 a0_0, .slice A0_1 l0_1.length c0_1]] w fun e w' => e = .returned (.bool r) ∧ Below w.heap.size w w' := by
  have hu51 := Try.underlying51
  have HR0_1 := Aside0.mk hr0_1
  have HC0_1 := Aside0.mk hc0_1
  clear hr0_1 hc0_1
  have HB := Aside0.mk (Below.refl w.heap.size w)
  have H : (some (decide ((l0_1.length : Int) > 500))) = some r := h
  clear h
  obtain rfl := Option.some.inj H
  go_enter Try.func63, Try.ntmps63
  go_wp2_with (first | ((with_reducible refine gate_dst (N := 1) rfl ?_); refine box_event ?hg (N := 1) ?hd (cs := #[.int .i64 a0_0, .slice A0_1 l0_1.length c0_1]) (t := 51) ?hr ?_; (case hd => rfl); (case hg => rfl); (case hr => first | (go_simp; done) | (go_simp; rfl)); intro gb145 hg w2 hbox hb; have n0_ := Aside0.mk (below_step (by repeat (first | (with_reducible first | exact HB.out | apply below_alloc | apply pw_below_drewN | apply below_drew1) | exact HB.out)) hb); have n1_ := Aside0.mk (hbox); have n2_ := Aside0.mk ((by rw [hg]; exact (below_size (by repeat (first | (with_reducible first | exact HB.out | apply below_alloc | apply pw_below_drewN | apply below_drew1) | exact HB.out))) : w.heap.size ≤ gb145)); have n3_ := Aside0.mk ((by rw [hg]; exact (below_size (by repeat (first | (with_reducible first | exact HB.out | apply below_alloc | apply pw_below_drewN | apply below_drew1) | exact HB.out))) : w.heap.size ≤ gb145)); clear HB; have HB := n0_; have BK145 := n1_; have GW145 := n2_; have GE145 := n3_; clear n0_ n1_ n2_ n3_; clear hb hbox hg; have hcz3_0 : w2.cell? ⟨gb145, 0, none⟩ = some (.int .i64 a0_0) := (blk_cell BK145.out 0).trans rfl; have hcz3_1 : w2.cell? ⟨gb145, 1, none⟩ = some (.slice A0_1 l0_1.length c0_1) := (blk_cell BK145.out 1).trans rfl; have hfz3_0 := blk_frozen BK145.out 0; have hfz3_1 := blk_frozen BK145.out 1))
  go_ret
  exact ⟨by first | rfl | (simp [errW_none, errW_some] <;> rfl) | (simp [*, errW_none, errW_some] <;> rfl), by repeat (first | (with_reducible first | exact HB.out | apply below_alloc | apply pw_below_drewN | apply below_drew1 | refine below_set ?_ GE145.out) | exact HB.out)⟩
set_option maxHeartbeats 2000000 in
theorem api_Sym_68.calls (A : Option Addr) (c : Nat) (l : List S59) (g : Nat) (lb : Array Value) (p : S59 → Bool) (w : World) (hC : k59.C w A l.length l) (hc : l.length ≤ c)
    (eg : ∀ args w, (callFunc g args).run Try.prog w = .ok (.enter g args) w) (hp : PredK Try.prog true k59 g lb p (· ∈ l) w) :
    Calls Try.prog 68 #[.slice A l.length c, .func (.func g) #[] lb] w fun e w' => e = .returned (.int .i64 (firstAt p l)) ∧ Below w.heap.size w w' := by
  have HC := Aside0.mk hC
  have HP := Aside0.mk hp
  have hbig : l.length ≤ 9223372036854775807 := hC.2.1
  clear hC hp
  go_enter Try.func68, Try.ntmps68
  go_wp2
  go_loopg [5, 8] l.length (fun gg _ s8 wr => ∃ kk : Nat, kk ≤ l.length ∧ l.length - kk ≤ gg ∧ s8 = .int .i64 kk ∧ Aside0 (Below w.heap.size w wr) ∧ Aside0 (∀ j, (hj : j < kk) → (hl : j < l.length) → p l[j] = false))
  case atStart => exact ⟨0, Nat.zero_le _, by omega, rfl, ⟨Below.refl _ w⟩, ⟨fun j hj => absurd hj (Nat.not_lt_zero _)⟩⟩
  case round =>
    obtain ⟨kk, hkk, hg, rfl, BW, A'⟩ := hrel
    by_cases hlt : kk < l.length
    · have hltz : (kk : Int) < (l.length : Int) := by omega
      obtain ⟨ad, cs, hA, hlen, hK, hcell⟩ := Kd.C_get (Kd.C_below HC.out BW.out) z59 (kk : Int) (by omega) (by omega)
      have hlen2 : cs.length = 2 := hlen
      obtain ⟨u0, u1, rfl⟩ : ∃ u0 u1, cs = [u0, u1] := by
        match cs, hlen2 with
        | [u0, u1], _ => exact ⟨u0, u1, rfl⟩
      have hx : l.getD (kk : Int).toNat z59 = l[kk] := by rw [Int.toNat_natCast, List.getD_eq_getElem?_getD, List.getElem?_eq_getElem hlt]; rfl
      rw [hx] at hK
      have hcall := HP.out wr l[kk] [u0, u1] BW.out hK (List.getElem_mem hlt)
      have hc0 : wr.cell? (ad.add (kk * 2)) = some u0 := by have := hcell 0 u0 rfl; rwa [Int.toNat_natCast, Nat.add_zero] at this
      have hc1 : wr.cell? ⟨(ad.add (kk * 2)).block, (ad.add (kk * 2)).off + 1, none⟩ = some u1 := by
        have := hcell 1 u1 rfl
        rw [Int.toNat_natCast] at this
        rw [← add_field _ _ 1 (by omega)]; exact this
      clear hcell hlen hlen2 hK hx
      subst hA
      generalize hq : p l[kk] = q at hcall
      have HQ := Aside0.mk hq
      clear hq
      have Hcall := Aside0.mk hcall
      clear hcall
      cases q with
      | true =>
        go_wp2_with fail
        refine Hcall.out.mono ?_
        rintro e w' ⟨rfl, hb'⟩
        go_wp2_with fail
        go_ret
        exact ⟨by rw [firstAt_hit hlt (fun j hj => A'.out j hj (by omega)) HQ.out]; rfl, below_step BW.out hb'⟩
      | false =>
        go_wp2_with fail
        refine Hcall.out.mono ?_
        rintro e w' ⟨rfl, hb'⟩
        go_wp2_with fail
        go_roundg (l.length - (kk + 1))
        case measure => omega
        case rel =>
          refine ⟨kk + 1, by omega, by omega, by go_num, ⟨below_step BW.out hb'⟩, ⟨fun j hj hl => ?_⟩⟩
          by_cases e : j = kk
          · subst e; exact HQ.out
          · exact A'.out j (by omega) hl
    · have hltz : ¬ (kk : Int) < (l.length : Int) := by omega
      have hkl : l.length = kk := by omega
      go_wp2
      go_ret
      exact ⟨by rw [firstAt_miss (fun j hj => A'.out j (by omega) hj)]; rfl, BW.out⟩
set_option maxHeartbeats 2000000 in
theorem api_Sym_45.calls (A : Option Addr) (c : Nat) (l : List S59) (g : Nat) (lb : Array Value) (p : S59 → Bool) (w : World) (hC : k59.C w A l.length l) (hc : l.length ≤ c)
    (eg : ∀ args w, (callFunc g args).run Try.prog w = .ok (.enter g args) w) (hp : PredK Try.prog true k59 g lb p (· ∈ l) w) :
    Calls Try.prog 45 #[.slice A l.length c, .func (.func g) #[] lb] w fun e w' => e = .returned (.bool (l.any p)) ∧ Below w.heap.size w w' := by
  have H := Aside0.mk (api_Sym_68.calls A c l g lb p w hC hc eg hp)
  have E := Aside0.mk (firstAt_any p l)
  clear hC hp
  generalize firstAt p l = q at H E
  go_enter Try.func45, Try.ntmps45
  go_wp2_with fail
  refine H.out.mono ?_
  rintro e w' ⟨rfl, hb'⟩
  go_wp2_with fail
  go_ret
  exact ⟨by rw [← E.out]; rfl, hb'⟩
def bnf_sym.f (a0_0 : Int) (a0_1 : Int) (l0_2 : List Int) (l0_3 : List (S51)) (a1_0 : Bool) (a1_1 : Int) : Option (Bool) := if a1_0 = true then ((bnf_from1.f a1_1 a0_0).bind fun t148 => (some t148)) else (if a1_1 ≥ 0 then (some (decide (a1_1 < (l0_2.length : Int)))) else (some false))
set_option maxHeartbeats 8000000 in
set_option maxRecDepth 100000 in
theorem bnf_sym.calls (a0_0 : Int) (a0_1 : Int) (A0_2 : Option Addr) (c0_2 : Nat) (l0_2 : List Int) (A0_3 : Option Addr) (c0_3 : Nat) (l0_3 : List (S51)) (a1_0 : Bool) (a1_1 : Int) (r : Bool) (w : World) (hr0_2 : Kd.C (Kd.int .i64) w A0_2 l0_2.length l0_2) (hc0_2 : l0_2.length ≤ c0_2) (hr0_3 : Kd.C k51 w A0_3 l0_3.length l0_3) (hc0_3 : l0_3.length ≤ c0_3) (h : bnf_sym.f a0_0 a0_1 l0_2 l0_3 a1_0 a1_1 = some r) :
    Calls Try.prog 76 #[.agg #[.int .i64 a0_0, .int .i64 a0_1, .slice A0_2 l0_2.length c0_2, .slice A0_3 l0_3.length c0_3], .agg #[.bool a1_0, .int .i64 a1_1]] w fun e w' => e = .returned (.bool r) ∧ Below w.heap.size w w' := by
  have hu25 := Try.underlying25
  have hu59 := Try.underlying59
  have HR0_2 := Aside0.mk hr0_2
  have HC0_2 := Aside0.mk hc0_2
  clear hr0_2 hc0_2
  have HR0_3 := Aside0.mk hr0_3
  have HC0_3 := Aside0.mk hc0_3
  clear hr0_3 hc0_3
  have HB := Aside0.mk (Below.refl w.heap.size w)
  have H : (if a1_0 = true then ((bnf_from1.f a1_1 a0_0).bind fun t148 => (some t148)) else (if a1_1 ≥ 0 then (some (decide (a1_1 < (l0_2.length : Int)))) else (some false))) = some r := h
  clear h
  by_cases c3 : a1_0 = true
  · subst c3
    have H1 : ((bnf_from1.f a1_1 a0_0).bind fun t148 => (some t148)) = some r := by rw [if_pos rfl] at H; exact H
    clear H
    have H := H1
    clear H1
    replace H := Option.bind_eq_some_iff.mp H
    obtain ⟨t148, A40, H⟩ := H
    replace H : (some t148) = some r := H
    have A4 := Aside0.mk A40
    clear A40
    obtain rfl := Option.some.inj H
    go_enter Try.func76, Try.ntmps76
    go_wp2_with (first | ((with_reducible refine gate_dst (N := 2) rfl ?_); (try (refine gate_guard (by rfl) ?_; dsimp only)); refine box_event ?hg (N := 2) ?hd (cs := #[.int .i64 a0_0, .int .i64 a0_1, .slice A0_2 l0_2.length c0_2, .slice A0_3 l0_3.length c0_3]) (t := 25) ?hr ?_; (case hd => rfl); (case hg => rfl); (case hr => first | (go_simp; done) | (go_simp; rfl)); intro gb146 hg w5 hbox hb; have n0_ := Aside0.mk (below_step (by repeat (first | (with_reducible first | exact HB.out | apply below_alloc | apply pw_below_drewN | apply below_drew1) | exact HB.out)) hb); have n1_ := Aside0.mk (hbox); have n2_ := Aside0.mk ((by rw [hg]; exact (below_size (by repeat (first | (with_reducible first | exact HB.out | apply below_alloc | apply pw_below_drewN | apply below_drew1) | exact HB.out))) : w.heap.size ≤ gb146)); have n3_ := Aside0.mk ((by rw [hg]; exact (below_size (by repeat (first | (with_reducible first | exact HB.out | apply below_alloc | apply pw_below_drewN | apply below_drew1) | exact HB.out))) : w.heap.size ≤ gb146)); clear HB; have HB := n0_; have BK146 := n1_; have GW146 := n2_; have GE146 := n3_; clear n0_ n1_ n2_ n3_; clear hb hbox hg) | ((with_reducible refine gate_dst (N := 3) rfl ?_); (try (refine gate_guard (by rfl) ?_; dsimp only)); refine box_event ?hg (N := 3) ?hd (cs := #[.bool true, .int .i64 a1_1]) (t := 59) ?hr ?_; (case hd => rfl); (case hg => rfl); (case hr => first | (go_simp; done) | (go_simp; rfl)); intro gb147 hg w6 hbox hb; have n0_ := Aside0.mk (blk_below (g := gb146) (o := .cells #[.int .i64 a0_0, .int .i64 a0_1, .slice A0_2 l0_2.length c0_2, .slice A0_3 l0_3.length c0_3] 25 (0, 0)) (by (with_reducible repeat (first | refine blk_drewN ?_ _ | refine blk_drew ?_ | refine blk_alloc ?_ _)); exact BK146.out) hb); have n1_ := Aside0.mk (below_step (by repeat (first | (with_reducible first | exact HB.out | apply below_alloc | apply pw_below_drewN | apply below_drew1 | refine below_set ?_ GE146.out) | exact HB.out)) hb); have n2_ := Aside0.mk (hbox); have n3_ := Aside0.mk ((by rw [hg]; exact (below_size (by repeat (first | (with_reducible first | exact HB.out | apply below_alloc | apply pw_below_drewN | apply below_drew1 | refine below_set ?_ GE146.out) | exact HB.out))) : w.heap.size ≤ gb147)); have n4_ := Aside0.mk ((by rw [hg]; exact (below_size (by repeat (first | (with_reducible first | exact HB.out | apply below_alloc | apply pw_below_drewN | apply below_drew1 | refine below_set ?_ GE146.out) | exact HB.out))) : w.heap.size ≤ gb147)); have n5_ := Aside0.mk ((by rw [hg]; exact Nat.ne_of_lt (blk_lt (g := gb146) (o := .cells #[.int .i64 a0_0, .int .i64 a0_1, .slice A0_2 l0_2.length c0_2, .slice A0_3 l0_3.length c0_3] 25 (0, 0)) (by (with_reducible repeat (first | refine blk_drewN ?_ _ | refine blk_drew ?_ | refine blk_alloc ?_ _)); exact BK146.out)) : gb146 ≠ gb147)); have n6_ := Aside0.mk ((by rw [hg]; exact Nat.ne_of_gt (blk_lt (g := gb146) (o := .cells #[.int .i64 a0_0, .int .i64 a0_1, .slice A0_2 l0_2.length c0_2, .slice A0_3 l0_3.length c0_3] 25 (0, 0)) (by (with_reducible repeat (first | refine blk_drewN ?_ _ | refine blk_drew ?_ | refine blk_alloc ?_ _)); exact BK146.out)) : gb147 ≠ gb146)); clear BK146; clear HB; have BK146 := n0_; have HB := n1_; have BK147 := n2_; have GW147 := n3_; have GE147 := n4_; have NB146_147 := n5_; have NB147_146 := n6_; clear n0_ n1_ n2_ n3_ n4_ n5_ n6_; clear hb hbox hg; have hnb7 := NB147_146.out; have hnc7 := NB146_147.out; have hcz8_0 : w6.cell? ⟨gb147, 0, none⟩ = some (.bool true) := (blk_cell BK147.out 0).trans rfl; have hcz8_1 : w6.cell? ⟨gb147, 1, none⟩ = some (.int .i64 a1_1) := (blk_cell BK147.out 1).trans rfl; have hfz8_0 := blk_frozen BK147.out 0; have hfz8_1 := blk_frozen BK147.out 1; have hcz9_0 : w6.cell? ⟨gb146, 0, none⟩ = some (.int .i64 a0_0) := (blk_cell BK146.out 0).trans rfl; have hcz9_1 : w6.cell? ⟨gb146, 1, none⟩ = some (.int .i64 a0_1) := (blk_cell BK146.out 1).trans rfl; have hcz9_2 : w6.cell? ⟨gb146, 2, none⟩ = some (.slice A0_2 l0_2.length c0_2) := (blk_cell BK146.out 2).trans rfl; have hcz9_3 : w6.cell? ⟨gb146, 3, none⟩ = some (.slice A0_3 l0_3.length c0_3) := (blk_cell BK146.out 3).trans rfl; have hfz9_0 := blk_frozen BK146.out 0; have hfz9_1 := blk_frozen BK146.out 1; have hfz9_2 := blk_frozen BK146.out 2; have hfz9_3 := blk_frozen BK146.out 3) | ((with_reducible refine gate_callee (f := 61) rfl ?_); refine goesL_ (some 11) rfl rfl Try.func61 (by kernel_rfl) rfl #[.int .i64 a1_1, .int .i64 a0_0] rfl (by (try simp only [List.map_toArray, List.map_cons, List.map_nil]); first | done | rfl | (simp only [List.length_drop, List.length_take]; rfl)) ?_; (with_reducible refine (bnf_from1.calls a1_1 a0_0 t148 _ A4.out).mono ?_); rintro e w' ⟨rfl, ⟨nd, rfl⟩⟩; refine ⟨_, rfl, ?_⟩))
    go_ret
    exact ⟨by first | rfl | (simp [errW_none, errW_some] <;> rfl) | (simp [*, errW_none, errW_some] <;> rfl), by repeat (first | (with_reducible first | exact HB.out | apply below_alloc | apply pw_below_drewN | apply below_drew1 | refine below_set ?_ GE146.out | refine below_set ?_ GE147.out) | exact HB.out)⟩
  · replace c3 := Bool.eq_false_iff.mpr c3
    subst c3
    have H1 : (if a1_1 ≥ 0 then (some (decide (a1_1 < (l0_2.length : Int)))) else (some false)) = some r := by rw [if_neg (show ¬ (false = true) by decide)] at H; exact H
    clear H
    have H := H1
    clear H1
    by_cases c10 : a1_1 ≥ 0
    · rw [if_pos c10] at H
      have c10b0 : decide (0 ≤ a1_1) = true := decide_eq_true c10
      clear c10
      obtain rfl := Option.some.inj H
      go_enter Try.func76, Try.ntmps76
      go_wp2_with (first | ((with_reducible refine gate_dst (N := 2) rfl ?_); (try (refine gate_guard (by rfl) ?_; dsimp only)); refine box_event ?hg (N := 2) ?hd (cs := #[.int .i64 a0_0, .int .i64 a0_1, .slice A0_2 l0_2.length c0_2, .slice A0_3 l0_3.length c0_3]) (t := 25) ?hr ?_; (case hd => rfl); (case hg => rfl); (case hr => first | (go_simp; done) | (go_simp; rfl)); intro gb146 hg w11 hbox hb; have n0_ := Aside0.mk (below_step (by repeat (first | (with_reducible first | exact HB.out | apply below_alloc | apply pw_below_drewN | apply below_drew1) | exact HB.out)) hb); have n1_ := Aside0.mk (hbox); have n2_ := Aside0.mk ((by rw [hg]; exact (below_size (by repeat (first | (with_reducible first | exact HB.out | apply below_alloc | apply pw_below_drewN | apply below_drew1) | exact HB.out))) : w.heap.size ≤ gb146)); have n3_ := Aside0.mk ((by rw [hg]; exact (below_size (by repeat (first | (with_reducible first | exact HB.out | apply below_alloc | apply pw_below_drewN | apply below_drew1) | exact HB.out))) : w.heap.size ≤ gb146)); clear HB; have HB := n0_; have BK146 := n1_; have GW146 := n2_; have GE146 := n3_; clear n0_ n1_ n2_ n3_; clear hb hbox hg) | ((with_reducible refine gate_dst (N := 3) rfl ?_); (try (refine gate_guard (by rfl) ?_; dsimp only)); refine box_event ?hg (N := 3) ?hd (cs := #[.bool false, .int .i64 a1_1]) (t := 59) ?hr ?_; (case hd => rfl); (case hg => rfl); (case hr => first | (go_simp; done) | (go_simp; rfl)); intro gb147 hg w12 hbox hb; have n0_ := Aside0.mk (blk_below (g := gb146) (o := .cells #[.int .i64 a0_0, .int .i64 a0_1, .slice A0_2 l0_2.length c0_2, .slice A0_3 l0_3.length c0_3] 25 (0, 0)) (by (with_reducible repeat (first | refine blk_drewN ?_ _ | refine blk_drew ?_ | refine blk_alloc ?_ _)); exact BK146.out) hb); have n1_ := Aside0.mk (below_step (by repeat (first | (with_reducible first | exact HB.out | apply below_alloc | apply pw_below_drewN | apply below_drew1 | refine below_set ?_ GE146.out) | exact HB.out)) hb); have n2_ := Aside0.mk (hbox); have n3_ := Aside0.mk ((by rw [hg]; exact (below_size (by repeat (first | (with_reducible first | exact HB.out | apply below_alloc | apply pw_below_drewN | apply below_drew1 | refine below_set ?_ GE146.out) | exact HB.out))) : w.heap.size ≤ gb147)); have n4_ := Aside0.mk ((by rw [hg]; exact (below_size (by repeat (first | (with_reducible first | exact HB.out | apply below_alloc | apply pw_below_drewN | apply below_drew1 | refine below_set ?_ GE146.out) | exact HB.out))) : w.heap.size ≤ gb147)); have n5_ := Aside0.mk ((by rw [hg]; exact Nat.ne_of_lt (blk_lt (g := gb146) (o := .cells #[.int .i64 a0_0, .int .i64 a0_1, .slice A0_2 l0_2.length c0_2, .slice A0_3 l0_3.length c0_3] 25 (0, 0)) (by (with_reducible repeat (first | refine blk_drewN ?_ _ | refine blk_drew ?_ | refine blk_alloc ?_ _)); exact BK146.out)) : gb146 ≠ gb147)); have n6_ := Aside0.mk ((by rw [hg]; exact Nat.ne_of_gt (blk_lt (g := gb146) (o := .cells #[.int .i64 a0_0, .int .i64 a0_1, .slice A0_2 l0_2.length c0_2, .slice A0_3 l0_3.length c0_3] 25 (0, 0)) (by (with_reducible repeat (first | refine blk_drewN ?_ _ | refine blk_drew ?_ | refine blk_alloc ?_ _)); exact BK146.out)) : gb147 ≠ gb146)); clear BK146; clear HB; have BK146 := n0_; have HB := n1_; have BK147 := n2_; have GW147 := n3_; have GE147 := n4_; have NB146_147 := n5_; have NB147_146 := n6_; clear n0_ n1_ n2_ n3_ n4_ n5_ n6_; clear hb hbox hg; have hnb13 := NB147_146.out; have hnc13 := NB146_147.out; have hcz14_0 : w12.cell? ⟨gb147, 0, none⟩ = some (.bool false) := (blk_cell BK147.out 0).trans rfl; have hcz14_1 : w12.cell? ⟨gb147, 1, none⟩ = some (.int .i64 a1_1) := (blk_cell BK147.out 1).trans rfl; have hfz14_0 := blk_frozen BK147.out 0; have hfz14_1 := blk_frozen BK147.out 1; have hcz15_0 : w12.cell? ⟨gb146, 0, none⟩ = some (.int .i64 a0_0) := (blk_cell BK146.out 0).trans rfl; have hcz15_1 : w12.cell? ⟨gb146, 1, none⟩ = some (.int .i64 a0_1) := (blk_cell BK146.out 1).trans rfl; have hcz15_2 : w12.cell? ⟨gb146, 2, none⟩ = some (.slice A0_2 l0_2.length c0_2) := (blk_cell BK146.out 2).trans rfl; have hcz15_3 : w12.cell? ⟨gb146, 3, none⟩ = some (.slice A0_3 l0_3.length c0_3) := (blk_cell BK146.out 3).trans rfl; have hfz15_0 := blk_frozen BK146.out 0; have hfz15_1 := blk_frozen BK146.out 1; have hfz15_2 := blk_frozen BK146.out 2; have hfz15_3 := blk_frozen BK146.out 3))
      go_ret
      exact ⟨by first | rfl | (simp [errW_none, errW_some] <;> rfl) | (simp [*, errW_none, errW_some] <;> rfl), by repeat (first | (with_reducible first | exact HB.out | apply below_alloc | apply pw_below_drewN | apply below_drew1 | refine below_set ?_ GE146.out | refine below_set ?_ GE147.out) | exact HB.out)⟩
    · rw [if_neg c10] at H
      have c10b0 : decide (0 ≤ a1_1) = false := decide_eq_false c10
      clear c10
      obtain rfl := Option.some.inj H
      go_enter Try.func76, Try.ntmps76
      go_wp2_with (first | ((with_reducible refine gate_dst (N := 2) rfl ?_); (try (refine gate_guard (by rfl) ?_; dsimp only)); refine box_event ?hg (N := 2) ?hd (cs := #[.int .i64 a0_0, .int .i64 a0_1, .slice A0_2 l0_2.length c0_2, .slice A0_3 l0_3.length c0_3]) (t := 25) ?hr ?_; (case hd => rfl); (case hg => rfl); (case hr => first | (go_simp; done) | (go_simp; rfl)); intro gb146 hg w16 hbox hb; have n0_ := Aside0.mk (below_step (by repeat (first | (with_reducible first | exact HB.out | apply below_alloc | apply pw_below_drewN | apply below_drew1) | exact HB.out)) hb); have n1_ := Aside0.mk (hbox); have n2_ := Aside0.mk ((by rw [hg]; exact (below_size (by repeat (first | (with_reducible first | exact HB.out | apply below_alloc | apply pw_below_drewN | apply below_drew1) | exact HB.out))) : w.heap.size ≤ gb146)); have n3_ := Aside0.mk ((by rw [hg]; exact (below_size (by repeat (first | (with_reducible first | exact HB.out | apply below_alloc | apply pw_below_drewN | apply below_drew1) | exact HB.out))) : w.heap.size ≤ gb146)); clear HB; have HB := n0_; have BK146 := n1_; have GW146 := n2_; have GE146 := n3_; clear n0_ n1_ n2_ n3_; clear hb hbox hg) | ((with_reducible refine gate_dst (N := 3) rfl ?_); (try (refine gate_guard (by rfl) ?_; dsimp only)); refine box_event ?hg (N := 3) ?hd (cs := #[.bool false, .int .i64 a1_1]) (t := 59) ?hr ?_; (case hd => rfl); (case hg => rfl); (case hr => first | (go_simp; done) | (go_simp; rfl)); intro gb147 hg w17 hbox hb; have n0_ := Aside0.mk (blk_below (g := gb146) (o := .cells #[.int .i64 a0_0, .int .i64 a0_1, .slice A0_2 l0_2.length c0_2, .slice A0_3 l0_3.length c0_3] 25 (0, 0)) (by (with_reducible repeat (first | refine blk_drewN ?_ _ | refine blk_drew ?_ | refine blk_alloc ?_ _)); exact BK146.out) hb); have n1_ := Aside0.mk (below_step (by repeat (first | (with_reducible first | exact HB.out | apply below_alloc | apply pw_below_drewN | apply below_drew1 | refine below_set ?_ GE146.out) | exact HB.out)) hb); have n2_ := Aside0.mk (hbox); have n3_ := Aside0.mk ((by rw [hg]; exact (below_size (by repeat (first | (with_reducible first | exact HB.out | apply below_alloc | apply pw_below_drewN | apply below_drew1 | refine below_set ?_ GE146.out) | exact HB.out))) : w.heap.size ≤ gb147)); have n4_ := Aside0.mk ((by rw [hg]; exact (below_size (by repeat (first | (with_reducible first | exact HB.out | apply below_alloc | apply pw_below_drewN | apply below_drew1 | refine below_set ?_ GE146.out) | exact HB.out))) : w.heap.size ≤ gb147)); have n5_ := Aside0.mk ((by rw [hg]; exact Nat.ne_of_lt (blk_lt (g := gb146) (o := .cells #[.int .i64 a0_0, .int .i64 a0_1, .slice A0_2 l0_2.length c0_2, .slice A0_3 l0_3.length c0_3] 25 (0, 0)) (by (with_reducible repeat (first | refine blk_drewN ?_ _ | refine blk_drew ?_ | refine blk_alloc ?_ _)); exact BK146.out)) : gb146 ≠ gb147)); have n6_ := Aside0.mk ((by rw [hg]; exact Nat.ne_of_gt (blk_lt (g := gb146) (o := .cells #[.int .i64 a0_0, .int .i64 a0_1, .slice A0_2 l0_2.length c0_2, .slice A0_3 l0_3.length c0_3] 25 (0, 0)) (by (with_reducible repeat (first | refine blk_drewN ?_ _ | refine blk_drew ?_ | refine blk_alloc ?_ _)); exact BK146.out)) : gb147 ≠ gb146)); clear BK146; clear HB; have BK146 := n0_; have HB := n1_; have BK147 := n2_; have GW147 := n3_; have GE147 := n4_; have NB146_147 := n5_; have NB147_146 := n6_; clear n0_ n1_ n2_ n3_ n4_ n5_ n6_; clear hb hbox hg; have hnb18 := NB147_146.out; have hnc18 := NB146_147.out; have hcz19_0 : w17.cell? ⟨gb147, 0, none⟩ = some (.bool false) := (blk_cell BK147.out 0).trans rfl; have hcz19_1 : w17.cell? ⟨gb147, 1, none⟩ = some (.int .i64 a1_1) := (blk_cell BK147.out 1).trans rfl; have hfz19_0 := blk_frozen BK147.out 0; have hfz19_1 := blk_frozen BK147.out 1))
      go_ret
      exact ⟨by first | rfl | (simp [errW_none, errW_some] <;> rfl) | (simp [*, errW_none, errW_some] <;> rfl), by repeat (first | (with_reducible first | exact HB.out | apply below_alloc | apply pw_below_drewN | apply below_drew1 | refine below_set ?_ GE146.out | refine below_set ?_ GE147.out) | exact HB.out)⟩
def bnf_symB (toks : Int) (n : Nat) (s : S59) : Bool := if s.f0 then decide (1 ≤ s.f1 ∧ s.f1 ≤ toks) else decide (0 ≤ s.f1 ∧ s.f1 < (n : Int))
theorem bnf_sym_is (toks look : Int) (o : List Int) (L : List S51) (s : S59) : bnf_sym.f toks look o L s.f0 s.f1 = some (bnf_symB toks o.length s) := by
  unfold bnf_sym.f bnf_from1.f bnf_symB
  cases s.f0 <;> simp
  · by_cases h : 0 ≤ s.f1 <;> simp [h]
  · by_cases h : 1 ≤ s.f1 <;> simp [h]
structure BnfAt (w : World) (b : Nat) (toks look : Int) (A2 : Option Addr) (c2 : Nat) (o : List Int) (A3 : Option Addr) (c3 : Nat) (L : List S51) : Prop where
  h0 : w.cell? ⟨b, 0, none⟩ = some (.int .i64 toks)
  h1 : w.cell? ⟨b, 1, none⟩ = some (.int .i64 look)
  h2 : w.cell? ⟨b, 2, none⟩ = some (.slice A2 o.length c2)
  h3 : w.cell? ⟨b, 3, none⟩ = some (.slice A3 L.length c3)
  r2 : Kd.C (Kd.int .i64) w A2 o.length o
  l2 : o.length ≤ c2
  r3 : Kd.C k51 w A3 L.length L
  l3 : L.length ≤ c3
theorem BnfAt.below {w w1 : World} {b : Nat} {toks look : Int} {A2 : Option Addr} {c2 : Nat} {o : List Int} {A3 : Option Addr} {c3 : Nat} {L : List S51} (h : BnfAt w b toks look A2 c2 o A3 c3 L) (hb : Below w.heap.size w w1) : BnfAt w1 b toks look A2 c2 o A3 c3 L :=
  ⟨pw_cell_below hb h.h0, pw_cell_below hb h.h1, pw_cell_below hb h.h2, pw_cell_below hb h.h3, Kd.C_below h.r2 hb, h.l2, Kd.C_below h.r3 hb, h.l3⟩
set_option maxHeartbeats 2000000 in
theorem bnf_prod1 {b : Nat} {toks look : Int} {A2 : Option Addr} {c2 : Nat} {o : List Int} {A3 : Option Addr} {c3 : Nat} {L : List S51} (w : World) (hB : BnfAt w b toks look A2 c2 o A3 c3 L) :
    PredK Try.prog true k59 75 #[.pointer (some ⟨b, 0, none⟩)] (fun s => !bnf_symB toks o.length s) (fun _ => True) w := by
  intro W s cs hb hK _
  obtain rfl := k59_open hK
  have HB := hB.below hb
  obtain ⟨h0, h1, h2, h3, r2, l2, r3, l3⟩ := HB
  have hlt : b < W.heap.size := World.block_lt_of_cell? W _ h0
  have HC := fun (W' : World) (hb' : Below W.heap.size W W') => bnf_sym.calls toks look A2 c2 o A3 c3 L s.f0 s.f1 _ W' (Kd.C_below r2 hb') l2 (Kd.C_below r3 hb') l3 (bnf_sym_is toks look o L s)
  have HC := Aside0.mk HC
  clear r2 r3
  show Calls Try.prog 75 #[.agg #[.bool s.f0, .int .i64 s.f1], .pointer (some ⟨b, 0, none⟩)] W fun e w' => e = .returned (.bool (!bnf_symB toks o.length s)) ∧ Below W.heap.size W w'
  generalize bnf_symB toks o.length s = q at HC
  go_enter Try.func75, Try.ntmps75
  go_wp2_with fail
  refine (HC.out _ ((Below.refl _ _).alloc (Nat.le_refl _) _)).mono ?_
  rintro e w' ⟨rfl, hb'⟩
  go_wp2_with fail
  go_ret
  exact ⟨rfl, below_step ((Below.refl _ _).alloc (Nat.le_refl _) _) hb'⟩
def bnf_prodB (toks : Int) (n : Nat) (p : S51) : Bool := decide (0 ≤ p.f0) && (decide (p.f0 < (n : Int)) && !(p.f1.any fun s => !bnf_symB toks n s))
set_option maxHeartbeats 4000000 in
theorem bnf_prod_calls (toks look : Int) (A2 : Option Addr) (c2 : Nat) (o : List Int) (A3 : Option Addr) (c3 : Nat) (L : List S51) (left : Int) (A1 : Option Addr) (c1 : Nat) (l : List S59) (w : World)
    (r2 : Kd.C (Kd.int .i64) w A2 o.length o) (l2 : o.length ≤ c2) (r3 : Kd.C k51 w A3 L.length L) (l3 : L.length ≤ c3) (r1 : Kd.C k59 w A1 l.length l) (l1 : l.length ≤ c1) :
    Calls Try.prog 65 #[.agg #[.int .i64 toks, .int .i64 look, .slice A2 o.length c2, .slice A3 L.length c3], .agg #[.int .i64 left, .slice A1 l.length c1]] w
      fun e w' => e = .returned (.bool (bnf_prodB toks o.length ⟨left, l⟩)) ∧ Below w.heap.size w w' := by
  let w1 := (w.alloc (.cells #[.int .i64 toks, .int .i64 look, .slice A2 o.length c2, .slice A3 L.length c3] 25)).alloc (.cells #[.int .i64 left, .slice A1 l.length c1] 51)
  have hb1 : Below w.heap.size w w1 := ((Below.refl _ _).alloc (Nat.le_refl _) _).alloc (by simp) _
  have hB : BnfAt w1 w.heap.size toks look A2 c2 o A3 c3 L := by
    refine ⟨?_, ?_, ?_, ?_, Kd.C_below r2 hb1, l2, Kd.C_below r3 hb1, l3⟩
    all_goals
      rw [World.cell?_alloc_past _ _ _ (by simp), World.cell?_alloc_at (hn := rfl)]
      rfl
  have HC := Aside0.mk (api_Sym_45.calls A1 c1 l 75 #[.pointer (some ⟨w.heap.size, 0, none⟩)] (fun s => !bnf_symB toks o.length s) w1 (Kd.C_below r1 hb1) l1 (fun args w => enters_ Try.func75 (by kernel_rfl) rfl args w) (fun W s cs hb hK _ => bnf_prod1 w1 hB W s cs hb hK trivial))
  have HB := Aside0.mk hb1
  clear hB r2 r3 r1 hb1
  have hfin : bnf_prodB toks o.length ⟨left, l⟩ = (decide (0 ≤ left) && (decide (left < (o.length : Int)) && !(l.any fun s => !bnf_symB toks o.length s))) := rfl
  rw [hfin]
  clear hfin
  generalize (l.any fun s => !bnf_symB toks o.length s) = q at HC
  by_cases c1 : 0 ≤ left
  · have c1b : decide (0 ≤ left) = true := decide_eq_true c1
    by_cases c2 : left < (o.length : Int)
    · have c2b : decide (left < (o.length : Int)) = true := decide_eq_true c2
      go_enter Try.func65, Try.ntmps65
      go_wp2_with fail
      refine HC.out.mono ?_
      rintro e w' ⟨rfl, hb'⟩
      go_wp2_with fail
      go_ret
      exact ⟨by simp [c1, c2], below_step HB.out hb'⟩
    · have c2b : decide (left < (o.length : Int)) = false := decide_eq_false c2
      go_enter Try.func65, Try.ntmps65
      go_wp2_with fail
      go_ret
      exact ⟨by simp [c1, c2], HB.out⟩
  · have c1b : decide (0 ≤ left) = false := decide_eq_false c1
    go_enter Try.func65, Try.ntmps65
    go_wp2_with fail
    go_ret
    exact ⟨by simp [c1], HB.out⟩
set_option maxHeartbeats 2000000 in
theorem bnf_may1 {b : Nat} {toks look : Int} {A2 : Option Addr} {c2 : Nat} {o : List Int} {A3 : Option Addr} {c3 : Nat} {L : List S51} (w : World) (hB : BnfAt w b toks look A2 c2 o A3 c3 L) :
    PredK Try.prog true k51 64 #[.pointer (some ⟨b, 0, none⟩)] (fun p => !bnf_prodB toks o.length p) (fun _ => True) w := by
  intro W p cs hb hK _
  obtain ⟨A1, c1, rfl, l1, r1⟩ := k51_open hK
  have HB := hB.below hb
  obtain ⟨h0, h1, h2, h3, r2, l2, r3, l3⟩ := HB
  have hlt : b < W.heap.size := World.block_lt_of_cell? W _ h0
  have HC := fun (W' : World) (hb' : Below W.heap.size W W') => bnf_prod_calls toks look A2 c2 o A3 c3 L p.f0 A1 c1 p.f1 W' (Kd.C_below r2 hb') l2 (Kd.C_below r3 hb') l3 (Kd.C_below r1 hb') l1
  have HC := Aside0.mk HC
  clear r2 r3 r1
  show Calls Try.prog 64 #[.agg #[.int .i64 p.f0, .slice A1 p.f1.length c1], .pointer (some ⟨b, 0, none⟩)] W fun e w' => e = .returned (.bool (!bnf_prodB toks o.length p)) ∧ Below W.heap.size W w'
  have hp : bnf_prodB toks o.length ⟨p.f0, p.f1⟩ = bnf_prodB toks o.length p := rfl
  rw [hp] at HC
  clear hp
  generalize bnf_prodB toks o.length p = q at HC
  go_enter Try.func64, Try.ntmps64
  go_wp2_with fail
  refine (HC.out _ ((Below.refl _ _).alloc (Nat.le_refl _) _)).mono ?_
  rintro e w' ⟨rfl, hb'⟩
  go_wp2_with fail
  go_ret
  exact ⟨rfl, below_step ((Below.refl _ _).alloc (Nat.le_refl _) _) hb'⟩
def bnf_longB (p : S51) : Bool := decide ((p.f1.length : Int) > 500)
theorem bnf_long_pred (w : World) : PredK Try.prog true k51 63 #[] bnf_longB (fun _ => True) w := by
  intro W p cs hb hK _
  obtain ⟨A1, c1, rfl, l1, r1⟩ := k51_open hK
  exact bnf_long.calls p.f0 A1 c1 p.f1 (bnf_longB p) W r1 l1 rfl
def bnf_mayB (toks look : Int) (o : List Int) (L : List S51) : Int :=
  if ¬ (1 ≤ toks ∧ toks ≤ 60) ∨ ¬ (1 ≤ o.length ∧ o.length ≤ 500) ∨ ¬ (1 ≤ L.length ∧ L.length ≤ 2000) ∨ L.any bnf_longB = true then 8
  else if ¬ (1 ≤ look ∧ look ≤ 4) then 11 else if L.any (fun p => !bnf_prodB toks o.length p) = true then 4 else 0
theorem bnf_from1_is (a b : Int) : bnf_from1.f a b = some (decide (1 ≤ a ∧ a ≤ b)) := by
  unfold bnf_from1.f
  by_cases h : 1 ≤ a <;> simp [h]
set_option maxHeartbeats 4000000 in
theorem bnf_may_calls (toks look : Int) (A2 : Option Addr) (c2 : Nat) (o : List Int) (A3 : Option Addr) (c3 : Nat) (L : List S51) (w : World)
    (r2 : Kd.C (Kd.int .i64) w A2 o.length o) (l2 : o.length ≤ c2) (r3 : Kd.C k51 w A3 L.length L) (l3 : L.length ≤ c3) :
    Calls Try.prog 37 #[.agg #[.int .i64 toks, .int .i64 look, .slice A2 o.length c2, .slice A3 L.length c3]] w
      fun e w' => e = .returned (.int .i64 (bnf_mayB toks look o L)) ∧ Below w.heap.size w w' := by
  let w1 := w.alloc (.cells #[.int .i64 toks, .int .i64 look, .slice A2 o.length c2, .slice A3 L.length c3] 25)
  have hb1 : Below w.heap.size w w1 := (Below.refl _ _).alloc (Nat.le_refl _) _
  have hB : BnfAt w1 w.heap.size toks look A2 c2 o A3 c3 L := by
    refine ⟨?_, ?_, ?_, ?_, Kd.C_below r2 hb1, l2, Kd.C_below r3 hb1, l3⟩
    all_goals
      rw [World.cell?_alloc_at (hn := rfl)]
      rfl
  have F1 := fun (a b : Int) (W : World) => bnf_from1.calls a b _ W (bnf_from1_is a b)
  have F1 := Aside0.mk F1
  have L1 := fun (W : World) (hb' : Below w1.heap.size w1 W) => api_Prod_62.calls A3 c3 L 63 #[] bnf_longB W (Kd.C_below (Kd.C_below r3 hb1) hb') l3 (fun args w => enters_ Try.func63 (by kernel_rfl) rfl args w) (fun W s cs hb hK _ => bnf_long_pred W W s cs (Below.refl _ _) hK trivial)
  have L1 := Aside0.mk L1
  have L2 := fun (W : World) (hb' : Below w1.heap.size w1 W) => api_Prod_62.calls A3 c3 L 64 #[.pointer (some ⟨w.heap.size, 0, none⟩)] (fun p => !bnf_prodB toks o.length p) W (Kd.C_below (Kd.C_below r3 hb1) hb') l3 (fun args w => enters_ Try.func64 (by kernel_rfl) rfl args w) (fun W2 s cs hb hK _ => bnf_may1 W (hB.below hb') W2 s cs hb hK trivial)
  have L2 := Aside0.mk L2
  have HB := Aside0.mk hb1
  obtain ⟨h0, h1, h2, h3, _, _, _, _⟩ := hB
  clear r2 r3 hb1
  have E : bnf_mayB toks look o L = (if !decide (1 ≤ toks ∧ toks ≤ 60) || (!decide (1 ≤ (o.length : Int) ∧ (o.length : Int) ≤ 500) || (!decide (1 ≤ (L.length : Int) ∧ (L.length : Int) ≤ 2000) || L.any bnf_longB)) then 8 else if !decide (1 ≤ look ∧ look ≤ 4) then 11 else if L.any (fun p => !bnf_prodB toks o.length p) then 4 else 0) := by
    have e1 : (1 ≤ (o.length : Int) ∧ (o.length : Int) ≤ 500) ↔ (1 ≤ o.length ∧ o.length ≤ 500) := by omega
    have e2 : (1 ≤ (L.length : Int) ∧ (L.length : Int) ≤ 2000) ↔ (1 ≤ L.length ∧ L.length ≤ 2000) := by omega
    unfold bnf_mayB
    simp only [e1, e2, Bool.or_eq_true, Bool.not_eq_true', decide_eq_false_iff_not]
  rw [E]
  clear E
  have G1 := Aside0.mk (fun W => F1.out toks 60 W)
  have G2 := Aside0.mk (fun W => F1.out o.length 500 W)
  have G3 := Aside0.mk (fun W => F1.out L.length 2000 W)
  have G4 := Aside0.mk (fun W => F1.out look 4 W)
  clear F1
  generalize decide (1 ≤ toks ∧ toks ≤ 60) = q1 at G1
  generalize decide (1 ≤ (o.length : Int) ∧ (o.length : Int) ≤ 500) = q2 at G2
  generalize decide (1 ≤ (L.length : Int) ∧ (L.length : Int) ≤ 2000) = q3 at G3
  generalize decide (1 ≤ look ∧ look ≤ 4) = q5 at G4
  generalize (L.any bnf_longB) = q4 at L1
  generalize (L.any fun p => !bnf_prodB toks o.length p) = q6 at L2
  go_enter Try.func37, Try.ntmps37
  go_wp2_with fail
  refine (G1.out _).mono ?_
  rintro e wa ⟨rfl, ⟨na, rfl⟩⟩
  cases q1 with
  | false => go_wp2_with fail; go_ret; exact ⟨rfl, (by repeat (first | exact HB.out | apply below_alloc | apply pw_below_drewN | apply below_drew1))⟩
  | true =>
    go_wp2_with fail
    refine (G2.out _).mono ?_
    rintro e wb ⟨rfl, ⟨nb, rfl⟩⟩
    cases q2 with
    | false => go_wp2_with fail; go_ret; exact ⟨rfl, (by repeat (first | exact HB.out | apply below_alloc | apply pw_below_drewN | apply below_drew1))⟩
    | true =>
      go_wp2_with fail
      refine (G3.out _).mono ?_
      rintro e wc ⟨rfl, ⟨nc, rfl⟩⟩
      cases q3 with
      | false => go_wp2_with fail; go_ret; exact ⟨rfl, (by repeat (first | exact HB.out | apply below_alloc | apply pw_below_drewN | apply below_drew1))⟩
      | true =>
        go_wp2_with fail
        refine (L1.out _ (by repeat (first | exact Below.refl _ _ | apply pw_below_drewN))).mono ?_
        rintro e wd ⟨rfl, hd⟩
        have HD : Aside0 (Below w1.heap.size w1 wd) := ⟨(pw_below_drewN (Below.refl _ _) _).trans hd⟩
        have HB2 : Aside0 (Below w.heap.size w wd) := ⟨below_step HB.out HD.out⟩
        have z0 := pw_cell_below HD.out h0
        have z1 := pw_cell_below HD.out h1
        have z2 := pw_cell_below HD.out h2
        have z3 := pw_cell_below HD.out h3
        clear h0 h1 h2 h3 hd HB
        cases q4 with
        | true => go_wp2_with fail; go_ret; exact ⟨rfl, HB2.out⟩
        | false =>
          go_wp2_with fail
          refine (G4.out _).mono ?_
          rintro e we ⟨rfl, ⟨ne, rfl⟩⟩
          cases q5 with
          | false => go_wp2_with fail; go_ret; exact ⟨rfl, pw_below_drewN HB2.out _⟩
          | true =>
            go_wp2_with fail
            refine (L2.out _ (pw_below_drewN HD.out _)).mono ?_
            rintro e wf ⟨rfl, hf⟩
            have HB3 : Aside0 (Below w.heap.size w wf) := ⟨below_step (pw_below_drewN HB2.out _) hf⟩
            clear hf z0 z1 z2 z3
            cases q6 with
            | true => go_wp2_with fail; go_ret; exact ⟨rfl, HB3.out⟩
            | false => go_wp2_with fail; go_ret; exact ⟨rfl, HB3.out⟩
theorem bnf_may_ok {toks look : Int} {o : List Int} {L : List S51} (h : bnf_mayB toks look o L = 0) : 1 ≤ o.length ∧ o.length ≤ 500 ∧ L.length ≤ 2000 ∧ ∀ p ∈ L, p.f1.length ≤ 500 ∧ 0 ≤ p.f0 ∧ p.f0 < (o.length : Int) ∧ ∀ s ∈ p.f1, s.f0 = false → 0 ≤ s.f1 ∧ s.f1 < (o.length : Int) := by
  unfold bnf_mayB at h
  by_cases h1 : ¬ (1 ≤ toks ∧ toks ≤ 60) ∨ ¬ (1 ≤ o.length ∧ o.length ≤ 500) ∨ ¬ (1 ≤ L.length ∧ L.length ≤ 2000) ∨ L.any bnf_longB = true
  · rw [if_pos h1] at h; exact absurd h (by decide)
  rw [if_neg h1] at h
  by_cases h2 : ¬ (1 ≤ look ∧ look ≤ 4)
  · rw [if_pos h2] at h; exact absurd h (by decide)
  rw [if_neg h2] at h
  by_cases h3 : L.any (fun p => !bnf_prodB toks o.length p) = true
  · rw [if_pos h3] at h; exact absurd h (by decide)
  have h4 : ¬ (L.any bnf_longB = true) := fun e => h1 (.inr (.inr (.inr e)))
  refine ⟨by omega, by omega, by omega, fun p hp => ?_⟩
  have a : bnf_longB p = false := by
    rcases hb : bnf_longB p with _ | _
    · rfl
    · exact absurd (List.any_eq_true.2 ⟨p, hp, hb⟩) h4
  have b : bnf_prodB toks o.length p = true := by
    rcases hb : bnf_prodB toks o.length p with _ | _
    · exact absurd (List.any_eq_true.2 ⟨p, hp, by rw [hb]; rfl⟩) h3
    · rfl
  unfold bnf_longB at a
  unfold bnf_prodB at b
  simp only [Bool.and_eq_true, decide_eq_true_eq, Bool.not_eq_true'] at b
  refine ⟨by simp at a; omega, b.1, b.2.1, fun s hs ht => ?_⟩
  have h5 := b.2.2
  rw [List.any_eq_false] at h5
  have h6 : bnf_symB toks o.length s = true := by simpa using h5 s hs
  unfold bnf_symB at h6
  rw [ht] at h6
  simpa using h6
set_option maxHeartbeats 2000000 in
theorem slices_IndexFunc_int_int.calls (A : Option Addr) (c : Nat) (l : List Int) (g : Nat) (lb : Array Value) (p : Int → Bool) (w : World) (hC : (Kd.int .i64).C w A l.length l) (hc : l.length ≤ c)
    (eg : ∀ args w, (callFunc g args).run Try.prog w = .ok (.enter g args) w) (hp : PredK Try.prog false (Kd.int .i64) g lb p (· ∈ l) w) :
    Calls Try.prog 80 #[.slice A l.length c, .func (.func g) #[] lb] w fun e w' => e = .returned (.int .i64 (firstAt p l)) ∧ Below w.heap.size w w' := by
  have HC := Aside0.mk hC
  have HP := Aside0.mk hp
  have hbig : l.length ≤ 9223372036854775807 := hC.2.1
  clear hC hp
  go_enter Try.func80, Try.ntmps80
  go_wp2
  go_loopg [5, 8] l.length (fun gg _ s8 wr => ∃ kk : Nat, kk ≤ l.length ∧ l.length - kk ≤ gg ∧ s8 = .int .i64 kk ∧ Aside0 (Below w.heap.size w wr) ∧ Aside0 (∀ j, (hj : j < kk) → (hl : j < l.length) → p l[j] = false))
  case atStart => exact ⟨0, Nat.zero_le _, by omega, rfl, ⟨Below.refl _ w⟩, ⟨fun j hj => absurd hj (Nat.not_lt_zero _)⟩⟩
  case round =>
    obtain ⟨kk, hkk, hg, rfl, BW, A'⟩ := hrel
    by_cases hlt : kk < l.length
    · have hltz : (kk : Int) < (l.length : Int) := by omega
      obtain ⟨ad, cs, hA, hlen, hK, hcell⟩ := Kd.C_get (Kd.C_below HC.out BW.out) (0 : Int) (kk : Int) (by omega) (by omega)
      have hlen2 : cs.length = 1 := hlen
      obtain ⟨u0, rfl⟩ : ∃ u0, cs = [u0] := by
        match cs, hlen2 with
        | [u0], _ => exact ⟨u0, rfl⟩
      have hx : l.getD (kk : Int).toNat (0 : Int) = l[kk] := by rw [Int.toNat_natCast, List.getD_eq_getElem?_getD, List.getElem?_eq_getElem hlt]; rfl
      rw [hx] at hK
      have hcall := HP.out wr l[kk] [u0] BW.out hK (List.getElem_mem hlt)
      have hc0 : wr.cell? (ad.add kk) = some u0 := by have := hcell 0 u0 rfl; rwa [Int.toNat_natCast, Nat.add_zero, show kk * (Kd.int .i64).sz = kk from Nat.mul_one _] at this
      clear hcell hlen hlen2 hK hx
      subst hA
      generalize hq : p l[kk] = q at hcall
      have HQ := Aside0.mk hq
      clear hq
      have Hcall := Aside0.mk hcall
      clear hcall
      cases q with
      | true =>
        go_wp2_with fail
        refine Hcall.out.mono ?_
        rintro e w' ⟨rfl, hb'⟩
        go_wp2_with fail
        go_ret
        exact ⟨by rw [firstAt_hit hlt (fun j hj => A'.out j hj (by omega)) HQ.out]; rfl, below_step BW.out hb'⟩
      | false =>
        go_wp2_with fail
        refine Hcall.out.mono ?_
        rintro e w' ⟨rfl, hb'⟩
        go_wp2_with fail
        go_roundg (l.length - (kk + 1))
        case measure => omega
        case rel =>
          refine ⟨kk + 1, by omega, by omega, by go_num, ⟨below_step BW.out hb'⟩, ⟨fun j hj hl => ?_⟩⟩
          by_cases e : j = kk
          · subst e; exact HQ.out
          · exact A'.out j (by omega) hl
    · have hltz : ¬ (kk : Int) < (l.length : Int) := by omega
      have hkl : l.length = kk := by omega
      go_wp2
      go_ret
      exact ⟨by rw [firstAt_miss (fun j hj => A'.out j (by omega) hj)]; rfl, BW.out⟩
set_option maxHeartbeats 2000000 in
theorem slices_ContainsFunc_int_int.calls (A : Option Addr) (c : Nat) (l : List Int) (g : Nat) (lb : Array Value) (p : Int → Bool) (w : World) (hC : (Kd.int .i64).C w A l.length l) (hc : l.length ≤ c)
    (eg : ∀ args w, (callFunc g args).run Try.prog w = .ok (.enter g args) w) (hp : PredK Try.prog false (Kd.int .i64) g lb p (· ∈ l) w) :
    Calls Try.prog 69 #[.slice A l.length c, .func (.func g) #[] lb] w fun e w' => e = .returned (.bool (l.any p)) ∧ Below w.heap.size w w' := by
  have H := Aside0.mk (slices_IndexFunc_int_int.calls A c l g lb p w hC hc eg hp)
  have E := Aside0.mk (firstAt_any p l)
  clear hC hp
  generalize firstAt p l = q at H E
  go_enter Try.func69, Try.ntmps69
  go_wp2_with fail
  refine H.out.mono ?_
  rintro e w' ⟨rfl, hb'⟩
  go_wp2_with fail
  go_ret
  exact ⟨by rw [← E.out]; rfl, hb'⟩
def outB (o : List Int) (n : Int) : Bool := decide (n < 0) || decide (n ≥ (o.length : Int))
def thereB (toks look : Int) (o : List Int) (L : List S51) (l : List Int) : Bool := decide (bnf_mayB toks look o L = 0) && !(l.any (outB o))
set_option maxHeartbeats 2000000 in
theorem reach_there1 {gb : Nat} {A2 : Option Addr} {c2 : Nat} {o : List Int} (ok : Int → Prop) (w : World) (hb : w.cell? ⟨gb, 2, none⟩ = some (.slice A2 o.length c2)) :
    PredK Try.prog false (Kd.int .i64) 70 #[.pointer (some ⟨gb, 0, none⟩)] (outB o) ok w := by
  intro W x cs hbel hK _
  obtain rfl : cs = [.int .i64 x] := hK
  have h2 := pw_cell_below hbel hb
  have hl2 := World.block_lt_of_cell? W _ h2
  clear hb
  show Calls Try.prog 70 #[.int .i64 x, .pointer (some ⟨gb, 0, none⟩)] W fun e w' => e = .returned (.bool (decide (x < 0) || decide (x ≥ (o.length : Int)))) ∧ Below W.heap.size W w'
  by_cases x0 : x < 0
  · have d0 : decide (x < 0) = true := decide_eq_true x0
    rw [d0, Bool.true_or]
    go_enter Try.func70, Try.ntmps70
    go_wp2_with fail
    go_ret
    exact ⟨rfl, Below.refl _ _⟩
  · have d0 : decide (x < 0) = false := decide_eq_false x0
    rw [d0, Bool.false_or]
    by_cases x1 : x ≥ (o.length : Int)
    · have d1 : decide (x ≥ (o.length : Int)) = true := decide_eq_true x1
      have d2 : decide ((o.length : Int) ≤ x) = true := decide_eq_true x1
      rw [d1]
      go_enter Try.func70, Try.ntmps70
      go_wp2_with fail
      go_ret
      exact ⟨rfl, Below.refl _ _⟩
    · have d1 : decide (x ≥ (o.length : Int)) = false := decide_eq_false x1
      have d2 : decide ((o.length : Int) ≤ x) = false := decide_eq_false x1
      rw [d1]
      go_enter Try.func70, Try.ntmps70
      go_wp2_with fail
      go_ret
      exact ⟨rfl, Below.refl _ _⟩
set_option maxHeartbeats 2000000 in
theorem reach_there_calls (toks look : Int) (A2 : Option Addr) (c2 : Nat) (o : List Int) (A3 : Option Addr) (c3 : Nat) (L : List S51) (Al : Option Addr) (cl : Nat) (l : List Int) (w : World)
    (r2 : Kd.C (Kd.int .i64) w A2 o.length o) (l2 : o.length ≤ c2) (r3 : Kd.C k51 w A3 L.length L) (l3 : L.length ≤ c3) (rl : Kd.C (Kd.int .i64) w Al l.length l) (ll : l.length ≤ cl) :
    Calls Try.prog 49 #[.agg #[.int .i64 toks, .int .i64 look, .slice A2 o.length c2, .slice A3 L.length c3], .slice Al l.length cl] w fun e w' => e = .returned (.bool (thereB toks look o L l)) ∧ Below w.heap.size w w' := by
  obtain ⟨W1, hW1⟩ : ∃ W1, W1 = w.alloc (.cells #[.int .i64 toks, .int .i64 look, .slice A2 o.length c2, .slice A3 L.length c3] 25) := ⟨_, rfl⟩
  have hb1 : Below w.heap.size w W1 := by rw [hW1]; exact below_alloc (Below.refl _ _) _
  have hbx : W1.heap[w.heap.size]? = some (.cells #[.int .i64 toks, .int .i64 look, .slice A2 o.length c2, .slice A3 L.length c3] 25 (0, 0)) := by rw [hW1]; exact hp_new rfl
  have HM := Aside0.mk (bnf_may_calls toks look A2 c2 o A3 c3 L W1 (Kd.C_below r2 hb1) l2 (Kd.C_below r3 hb1) l3)
  have HRL := Aside0.mk (Kd.C_below rl hb1)
  have HB1 := Aside0.mk hb1
  have HX2 := Aside0.mk (show W1.cell? ⟨w.heap.size, 2, none⟩ = some (.slice A2 o.length c2) from (blk_cell hbx 2).trans rfl)
  clear r2 r3 rl hb1 hbx l2 l3
  have hT : thereB toks look o L l = (decide (bnf_mayB toks look o L = 0) && !(l.any (outB o))) := rfl
  generalize bnf_mayB toks look o L = q at HM hT
  by_cases hq : q = 0
  · subst hq
    rw [hT, decide_eq_true rfl, Bool.true_and]
    clear hT
    obtain ⟨bb, hbb⟩ : ∃ bb, bb = l.any (outB o) := ⟨_, rfl⟩
    rw [← hbb]
    have HBB := Aside0.mk hbb
    clear hbb
    go_enter Try.func49, Try.ntmps49
    go_wp2_with fail
    rw [← hW1]
    clear hW1
    refine HM.out.mono ?_
    rintro e w1 ⟨rfl, hb2⟩
    have HC0 := (slices_ContainsFunc_int_int.calls Al cl l 70 #[.pointer (some ⟨w.heap.size, 0, none⟩)] (outB o) w1 (Kd.C_below HRL.out hb2) ll (fun args w => enters_ Try.func70 (by kernel_rfl) rfl args w) (reach_there1 _ w1 (pw_cell_below hb2 HX2.out)))
    have HB2 := Aside0.mk (below_step HB1.out hb2)
    rw [← HBB.out] at HC0
    have HC := Aside0.mk HC0
    clear hb2 HM ll HC0 HBB
    go_wp2_with fail
    refine HC.out.mono ?_
    rintro e w2 ⟨rfl, hb3⟩
    have HB3 := Aside0.mk (below_step HB2.out hb3)
    clear hb3 HC
    go_wp2_with fail
    go_ret
    exact ⟨rfl, HB3.out⟩
  · rw [hT, decide_eq_false hq, Bool.false_and]
    have e1 : (q == 0) = false := by simpa using hq
    have e2 : decide (q = 0) = false := decide_eq_false hq
    clear hT
    go_enter Try.func49, Try.ntmps49
    go_wp2_with fail
    rw [← hW1]
    clear hW1
    refine HM.out.mono ?_
    rintro e w1 ⟨rfl, hb2⟩
    have HB2 := Aside0.mk (below_step HB1.out hb2)
    clear hb2 HM
    go_wp2_with fail
    go_ret
    exact ⟨rfl, HB2.out⟩
theorem there_in {toks look : Int} {o : List Int} {L : List S51} {l : List Int} (h : thereB toks look o L l = true) : bnf_mayB toks look o L = 0 ∧ ∀ n ∈ l, 0 ≤ n ∧ n < (o.length : Int) := by
  unfold thereB at h
  rw [Bool.and_eq_true, Bool.not_eq_true', List.any_eq_false] at h
  refine ⟨of_decide_eq_true h.1, fun n hn => ?_⟩
  have := h.2 n hn
  unfold outB at this
  simp only [Bool.or_eq_true, decide_eq_true_eq, not_or, Bool.not_eq_true, decide_eq_false_iff_not] at this
  omega
end Go.Proofs.Ytmpdilifoblnaaa.MReachWays
end
section
namespace Go.Proofs.Ytmpdilifoblnaaa.MReachWays
open Go.RowKit Go.Proofs.YtmpdilifoblnaaaW.PrintWords Go.Proofs.YtmpdilifoblnaaaW.PrintLast Go.Proofs.YtmpdilifoblnaaaW.PrintMore Go.Proofs.Ytmpdilifoblnaaa.Fun Go.Proofs.Ytmpdilifoblnaaa.Mem
attribute [local go_sem] max2_int min2_int max_two min_two max_three min_three max_four min_four
set_option linter.unusedVariables false
set_option linter.unusedSimpArgs false
def occS (i : Int) (l : List S59) : List (Int × Int) := (l.filter fun s => !s.f0).map fun s => (s.f1, i)
def occ : Int → List S51 → List (Int × Int)
  | _, [] => []
  | i, p :: ps => occS i p.f1 ++ occ (i + 1) ps
theorem occ_snoc : ∀ (l : List S51) (i : Int) (p : S51), occ i (l ++ [p]) = occ i l ++ occS (i + l.length) p.f1
  | [], i, p => by simp [occ]
  | q :: l, i, p => by
    simp only [List.cons_append, occ]
    rw [occ_snoc l (i + 1) p, List.append_assoc]
    congr 3
    simp only [List.length_cons]
    omega
theorem occS_snoc (i : Int) (l : List S59) (s : S59) : occS i (l ++ [s]) = occS i l ++ (if s.f0 then [] else [(s.f1, i)]) := by
  unfold occS
  rw [List.filter_append, List.map_append]
  cases h : s.f0 <;> simp [h]
def SymOk (n : Nat) (s : S59) : Prop := s.f0 = false → 0 ≤ s.f1 ∧ s.f1 < (n : Int)
theorem occ_len : ∀ (L : List S51) (i : Int), (∀ p ∈ L, p.f1.length ≤ 500) → (occ i L).length ≤ 500 * L.length
  | [], _, _ => by simp [occ]
  | p :: ps, i, h => by
    have h1 := h p List.mem_cons_self
    have h2 := occ_len ps (i + 1) (fun q hq => h q (List.mem_cons_of_mem _ hq))
    simp only [occ, List.length_append, List.length_cons]
    have h3 : (occS i p.f1).length ≤ p.f1.length := by
      unfold occS
      rw [List.length_map]
      exact List.length_filter_le _ _
    omega
def whoOf (o : List (Int × Int)) (n : Int) : List Int := (o.filter fun p => p.1 == n).map (·.2)
theorem whoOf_snoc (o : List (Int × Int)) (m i n : Int) : whoOf (o ++ [(m, i)]) n = whoOf o n ++ (if m = n then [i] else []) := by
  unfold whoOf
  rw [List.filter_append, List.map_append]
  by_cases h : m = n <;> simp [h]
theorem asks_infoI : (Try.prog.info? 3).map (fun i => (i.zero, i.size, i.bytes)) = some (some (.int .i64 0), 1, 8) := by kernel_rfl
theorem asks_infoB : (Try.prog.info? 4).map (fun i => (i.zero, i.size, i.bytes)) = some (some (.bool false), 1, 1) := by kernel_rfl
theorem law_int : Maps.Keyed Try.prog 3 := Maps.int_keyed Try.underlying3
theorem zero_ints (w : World) : (zeroValue 22).run Try.prog w = .ok (.slice none 0 0) w := by kernel_rfl
structure WhoB (w : World) (g base : Nat) (o : List (Int × Int)) : Prop where mk ::
  (out : ∃ n, ∃ D : DataW Unit, w.ownsGroups Try.prog 3 base 3 .i64 g n D ∧ n ≤ o.length ∧ Maps.IsMap D ∧ ∀ i : Int, itemsOf (D.atKey (.int .i64 i) .nil) = whoOf o i)
theorem WhoB.kept {w w1 : World} {g base : Nat} {o : List (Int × Int)} (h : WhoB w g base o) (hb : Below w.heap.size w w1) : WhoB w1 g base o := by
  obtain ⟨n, D, h1, h2, h3, h4⟩ := h.out
  exact ⟨n, D, h1.kept (grown_of_below hb none) (by simp) (fun es clock _ x _ => by cases x.val.ownBlock <;> simp), h2, h3, h4⟩
theorem WhoB.made {w : World} {g base : Nat} {o : List (Int × Int)} (hg : g = w.heap.size) (hb : base = w.heap.size + 1) (ho : o = []) : WhoB (w.alloc (.map #[] 0)) g base o := by
  subst hg hb ho
  exact ⟨0, .map [], World.ownsGroups_made _ _ _ _ _, Nat.le_refl _, ⟨_, rfl⟩, fun i => rfl⟩
def Who (w : World) (g : Nat) (o : List (Int × Int)) : Prop := ∃ base, WhoB w g base o
theorem Who.kept {w w1 : World} {g : Nat} {o : List (Int × Int)} (h : Who w g o) (hb : Below w.heap.size w w1) : Who w1 g o := h.imp fun _ h => h.kept hb
structure AskW (w wr : World) (av : Array Value) (o : List (Int × Int)) : Prop where
  b : Below w.heap.size w wr
  box : wr.heap[w.heap.size + 1 + 1 + 1]? = some (.cells av 55 (0, 0))
  res : ∃ rv, wr.heap[w.heap.size + 1]? = some (.cells rv 55 (0, 0)) ∧ rv.size = 5
  who : WhoB wr (w.heap.size + 1 + 1) (w.heap.size + 1 + 1 + 1) o
theorem occ_append : ∀ (l m : List S51) (i : Int), occ i (l ++ m) = occ i l ++ occ (i + l.length) m
  | [], m, i => by simp [occ]
  | q :: l, m, i => by
    simp only [List.cons_append, occ]
    rw [occ_append l m (i + 1), List.append_assoc]
    congr 3
    simp only [List.length_cons]
    omega
theorem occS_append (i : Int) (l m : List S59) : occS i (l ++ m) = occS i l ++ occS i m := by
  unfold occS
  rw [List.filter_append, List.map_append]
theorem occ_room (L : List S51) (kk : Nat) (hk : kk < L.length) (p : S51) (hp : L.take (kk + 1) = L.take kk ++ [p]) (jj : Nat) (n : Int) (hx : p.f1.take (jj + 1) = p.f1.take jj ++ [⟨false, n⟩]) :
    (occ 0 (L.take kk) ++ occS kk (p.f1.take jj)).length + 1 ≤ (occ 0 L).length := by
  have e : L = L.take kk ++ [p] ++ L.drop (kk + 1) := by rw [← hp, List.take_append_drop]
  have e2 : p.f1 = p.f1.take jj ++ [⟨false, n⟩] ++ p.f1.drop (jj + 1) := by rw [← hx, List.take_append_drop]
  have h1 : (occ 0 L).length = (occ 0 (L.take kk)).length + (occS (0 + ((L.take kk).length : Int)) p.f1).length + (occ (0 + ((L.take kk ++ [p]).length : Int)) (L.drop (kk + 1))).length := by
    conv => lhs; rw [e]
    rw [occ_append, occ_snoc, List.length_append, List.length_append]
  have hl : ∀ i : Int, (occS i p.f1).length = (occS i (p.f1.take jj)).length + 1 + (occS i (p.f1.drop (jj + 1))).length := by
    intro i
    conv => lhs; rw [e2]
    rw [occS_append, occS_append, List.length_append, List.length_append]
    rfl
  have hk2 : (0 : Int) + ((L.take kk).length : Int) = (kk : Int) := by rw [List.length_take, Nat.min_eq_left (by omega)]; omega
  rw [hk2] at h1
  have := hl kk
  rw [List.length_append]
  omega
theorem WhoB.set {w : World} {g base x j : Nat} {o : List (Int × Int)} (h : WhoB w g base o) (hg : g ≠ x) (hx : x < base) (u : Value) : WhoB (w.setCell ⟨x, j, none⟩ u) g base o := by
  obtain ⟨n, D, h1, h2, h3, h4⟩ := h.out
  exact ⟨n, D, h1.kept (grown_set w x j u) (by simpa using hg) (h1.rowsAbove (fun j e => by cases e; exact hx)), h2, h3, h4⟩
theorem AskW.kept {w wr w1 : World} {av : Array Value} {o : List (Int × Int)} (h : AskW w wr av o) (hb : Below wr.heap.size wr w1) : AskW w w1 av o := by
  obtain ⟨h1, h2, ⟨rv, h3, h3'⟩, h4⟩ := h
  exact ⟨below_step h1 hb, (hb.block _ (blk_lt h2)).trans h2, ⟨rv, (hb.block _ (blk_lt h3)).trans h3, h3'⟩, h4.kept hb⟩
set_option maxHeartbeats 4000000 in
set_option maxRecDepth 100000 in
theorem empty_asks_calls (toks look : Int) (A2 : Option Addr) (c2 : Nat) (o : List Int) (A3 : Option Addr) (c3 : Nat) (L : List S51) (w : World)
    (r2 : Kd.C (Kd.int .i64) w A2 o.length o) (l2 : o.length ≤ c2) (r3 : Kd.C k51 w A3 L.length L) (l3 : L.length ≤ c3)
    (hok : ∀ p ∈ L, ∀ s ∈ p.f1, s.f0 = false → 0 ≤ s.f1 ∧ s.f1 ≤ 9223372036854775807) (hlen : (occ 0 L).length ≤ 1000000000) :
    Calls Try.prog 39 #[.agg #[.int .i64 toks, .int .i64 look, .slice A2 o.length c2, .slice A3 L.length c3]] w
      fun e w' => ∃ g, e = .returned (.agg #[.int .i64 toks, .int .i64 look, .slice A2 o.length c2, .slice A3 L.length c3, .map (some g)]) ∧ Who w' g (occ 0 L) ∧ Below w.heap.size w w' ∧ w.heap.size ≤ g := by
  have hmm := @run_makeMap Try.prog
  have HR3 := Aside0.mk r3
  have HL3 := Aside0.mk l3
  have HOK := Aside0.mk hok
  have HLEN := Aside0.mk hlen
  have hbig : L.length ≤ 9223372036854775807 := r3.2.1
  have HBIG := Aside0.mk hbig
  clear r2 l2 r3 l3 hok hlen
  obtain ⟨av, hav⟩ : ∃ av : Array Value, av = #[.int .i64 toks, .int .i64 look, .slice A2 o.length c2, .slice A3 L.length c3, .map (some (w.heap.size + 1 + 1))] := ⟨_, rfl⟩
  have HAV := Aside0.mk hav
  clear hav
  go_enter Try.func39, Try.ntmps39
  go_wp2
  go_loopg [14] L.length (fun gg v14 wr => ∃ kk : Nat, kk ≤ L.length ∧ L.length - kk ≤ gg ∧ v14 = .int .i64 kk ∧ Aside0 (AskW w wr av (occ 0 (L.take kk))))
  case atStart =>
    refine ⟨0, Nat.zero_le _, by omega, rfl, ⟨?_, ?_, ?_, ?_⟩⟩
    · repeat (first | exact Below.refl _ _ | apply below_alloc)
    · rw [HAV.out]; exact hp_new (by simp)
    · exact ⟨_, hp_old (hp_old (hp_new (by simp))), rfl⟩
    · exact (WhoB.made (by simp) (by simp) rfl).kept (below_alloc (Below.refl _ _) _)
  case round =>
    obtain ⟨kk, hkk, hg, rfl, HW⟩ := hrel
    by_cases hlt : kk < L.length
    · have hltz : (kk : Int) < (L.length : Int) := by omega
      obtain ⟨ad, cs, hA, hcl, hK, hcell⟩ := Kd.C_get HR3.out z51 (kk : Int) (by omega) (by omega)
      have hx : L.getD (kk : Int).toNat z51 = L[kk] := by rw [Int.toNat_natCast, List.getD_eq_getElem?_getD, List.getElem?_eq_getElem hlt]; rfl
      rw [hx] at hK
      obtain ⟨A1, c1, rfl, l1, r1⟩ := k51_open hK
      have hc0 : wr.cell? (ad.add (kk * 2)) = some (.int .i64 L[kk].f0) := by have := pw_cell_below HW.out.b (hcell 0 _ rfl); rwa [Int.toNat_natCast, Nat.add_zero] at this
      have hc1 : wr.cell? ⟨(ad.add (kk * 2)).block, (ad.add (kk * 2)).off + 1, none⟩ = some (.slice A1 L[kk].f1.length c1) := by
        have := pw_cell_below HW.out.b (hcell 1 _ rfl)
        rw [Int.toNat_natCast] at this
        rw [← add_field _ _ 1 (by omega)]; exact this
      have HR1 := Aside0.mk r1
      have hbig1 : L[kk].f1.length ≤ 9223372036854775807 := r1.2.1
      have HP := Aside0.mk (show L[kk] ∈ L from List.getElem_mem hlt)
      have HX := Aside0.mk (List.take_succ_eq_append_getElem hlt)
      generalize L[kk] = p at hc0 hc1 HR1 HP HX hbig1
      clear hcell hcl hK hx l1 r1
      subst hA
      go_wp2_with fail
      go_loopg [22] p.f1.length (fun gg v22 wr2 => ∃ jj : Nat, jj ≤ p.f1.length ∧ p.f1.length - jj ≤ gg ∧ v22 = .int .i64 jj ∧ Aside0 (AskW w wr2 av (occ 0 (L.take kk) ++ occS kk (p.f1.take jj))))
      case atStart =>
        refine ⟨0, Nat.zero_le _, by omega, rfl, ⟨?_⟩⟩
        have h := HW.out.kept (below_alloc (Below.refl _ _) (.cells #[.int .i64 p.f0, .slice A1 p.f1.length c1] 51))
        rwa [show occ 0 (L.take kk) ++ occS kk (p.f1.take 0) = occ 0 (L.take kk) from by simp [occS]]
      case round =>
        clear hc0 hc1
        obtain ⟨jj, hjj, hg2, rfl, HW2⟩ := hrel
        by_cases hlt2 : jj < p.f1.length
        · have hltz2 : (jj : Int) < (p.f1.length : Int) := by omega
          obtain ⟨ad2, cs, hA, hcl, hK, hcell⟩ := Kd.C_get HR1.out z59 (jj : Int) (by omega) (by omega)
          have hx : p.f1.getD (jj : Int).toNat z59 = p.f1[jj] := by rw [Int.toNat_natCast, List.getD_eq_getElem?_getD, List.getElem?_eq_getElem hlt2]; rfl
          rw [hx] at hK
          obtain rfl := k59_open hK
          have hc0 : wr.cell? (ad2.add (jj * 2)) = some (.bool p.f1[jj].f0) := by have := pw_cell_below HW2.out.b (hcell 0 _ rfl); rwa [Int.toNat_natCast, Nat.add_zero] at this
          have hc1 : wr.cell? ⟨(ad2.add (jj * 2)).block, (ad2.add (jj * 2)).off + 1, none⟩ = some (.int .i64 p.f1[jj].f1) := by
            have := pw_cell_below HW2.out.b (hcell 1 _ rfl)
            rw [Int.toNat_natCast] at this
            rw [← add_field _ _ 1 (by omega)]; exact this
          have HS := Aside0.mk (show p.f1[jj] ∈ p.f1 from List.getElem_mem hlt2)
          have HX2 := Aside0.mk (List.take_succ_eq_append_getElem hlt2)
          generalize p.f1[jj] = s at hc0 hc1 HS HX2
          clear hcell hcl hK hx
          subst hA
          obtain ⟨tok, n⟩ := s
          cases tok with
          | true =>
            go_wp2_with fail
            go_roundg (p.f1.length - (jj + 1))
            case measure => omega
            case rel =>
              refine ⟨jj + 1, by omega, by omega, by go_num, ⟨?_⟩⟩
              rw [HX2.out, occS_snoc]
              simp only [if_true, List.append_nil]
              exact HW2.out.kept (below_alloc (Below.refl _ _) _)
          | false =>
            go_wp2_with fail
            have hN := HOK.out p HP.out _ HS.out rfl
            have hn0 : 0 ≤ n := hN.1
            have hn1 : n ≤ 9223372036854775807 := hN.2
            clear hN hc0 hc1
            have HW3 := HW2.out.kept (below_alloc (Below.refl _ _) (.cells #[.bool false, .int .i64 n] 59))
            have hsc : (wr.alloc (.cells #[.bool false, .int .i64 n] 59)).cell? ⟨wr.heap.size, 1, none⟩ = some (.int .i64 n) := (blk_cell (hp_new rfl) 1).trans rfl
            have hac : (wr.alloc (.cells #[.bool false, .int .i64 n] 59)).cell? ⟨w.heap.size + 1 + 1 + 1, 4, none⟩ = some (.map (some (w.heap.size + 1 + 1))) := (blk_cell HW3.box 4).trans (by rw [HAV.out]; rfl)
            have hsb : (wr.alloc (.cells #[.bool false, .int .i64 n] 59)).heap[wr.heap.size]? = some (.cells #[.bool false, .int .i64 n] 59 (0, 0)) := hp_new rfl
            generalize wr.alloc (.cells #[.bool false, .int .i64 n] 59) = W at HW3 hsc hac hsb
            obtain ⟨m, D, hown, hm, hD, hit⟩ := HW3.who.out
            have hkey := Maps.keyOf_int_mk (P := Try.prog) (k := 3) Try.underlying3 (a := n) (WalkArith.wf_i64 ⟨by omega, hn1⟩)
            have hroom := occ_room L kk hlt p HX.out jj n HX2.out
            have hlen := HLEN.out
            have hlm : m + 1 ≤ 1000000000 := by omega
            clear hroom hlen
            obtain ⟨v, zs, hrun, hat, hoi, hzl, hback⟩ := hown.at law_int Try.underlying53 (zero_ints _) (by unfold maxLen; omega) hkey
            have hbw : w.heap.size + 1 + 1 + 1 < W.heap.size := blk_lt HW3.box
            have hws := blk_lt hsb
            have hw0 := blk_lt HW2.out.box
            have hne3 : some (w.heap.size + 1 + 1 + 1) ≠ v.ownBlock := own_ne hoi.1 HW3.box (by decide)
            have hne0 : some wr.heap.size ≠ v.ownBlock := own_ne hoi.1 hsb (by decide)
            have hl1 := look_stays hown law_int Try.underlying53 zero_ints hkey hrun (w1 := (W.alloc (.cells #[.int .i64 kk] 3)).drew) (hp_old' (by omega))
            have hl2 := look_stays hown law_int Try.underlying53 zero_ints hkey hrun (w1 := (W.drew.alloc (.cells #[.int .i64 kk] 3)).drew) (hp_old' (by simp; omega))
            have hl3 := look_stays hown law_int Try.underlying53 zero_ints hkey hrun (w1 := W.drew.alloc (.cells #[.int .i64 kk] 3)) (hp_old' (by simp; omega))
            have hl4 := look_stays hown law_int Try.underlying53 zero_ints hkey hrun (w1 := W.alloc (.cells #[.int .i64 kk] 3)) (hp_old' (by omega))
            have hl5 := look_stays hown law_int Try.underlying53 zero_ints hkey hrun (w1 := W.drew) rfl
            have HBK := Aside0.mk hback
            have HAT := Aside0.mk hat
            have HOI := Aside0.mk hoi
            have HOW := Aside0.mk hown
            clear hback hat hoi hown
            go_region_held3 (fun w' => w'.cell? ⟨w.heap.size + 1 + 1 + 1, 4, none⟩ = some (.map (some (w.heap.size + 1 + 1))) ∧ w'.cell? ⟨wr.heap.size, 1, none⟩ = some (.int .i64 n))
              (first
                | go_keep
                | (go_split_ands
                   refine ⟨?_, ?_⟩
                   · (rw [hgrow.cell_far _ (by simp; omega) hne3]; assumption)
                   · (rw [hgrow.cell_far _ (by simp; omega) hne0]; assumption))
                | (go_split_ands
                   refine ⟨?_, ?_⟩
                   · (rw [hgrow2.cell_far _ (by have := hgrow.size; simp at this; simp; omega) (by simp)]; assumption)
                   · (rw [hgrow2.cell_far _ (by have := hgrow.size; simp at this; simp; omega) (by simp; omega)]; assumption)))
              ((refine step_append_cells (w0 := W) (W := W.drew) (w.heap.size + 1 + 1 + 1) (by rfl) _ _ 22 3 (.int .i64 0) 1 8 (by rfl) Try.underlying22 asks_infoI rfl (by decide) (by decide) v zs.length (zs.map (Value.int .i64)) [.int .i64 kk] (by rfl) (by rfl) rfl (by simp [Value.oneCell']) HOI.out.1 (below_drew1 (Below.refl _ _)) (by simp; omega) (by omega) ?_; intro v1 w1 hown1 hB1 hgrow hat1; obtain ⟨w2, hrun2, hown2, hgrow2⟩ := HBK.out w1 v1 (zs ++ [(kk : Int)]) ⟨hgrow.os, hgrow.tape, hgrow.output, hgrow.size, hgrow.block⟩ (HOI.out.appended hown1 (WalkArith.wf_i64 ⟨by omega, by omega⟩)) (by rw [List.length_append]; simp only [List.length_cons, List.length_nil]; omega) (hat1.imp id (fun h => h)); have HG1 := Aside0.mk hgrow; have HG2 := Aside0.mk hgrow2; have HO1 := Aside0.mk hown1; have HO2 := Aside0.mk hown2; have HA1 := Aside0.mk hat1; clear hown1 hown2 hB1 hat1))
            all_goals
              go_wp2_with fail
              go_roundg (p.f1.length - (jj + 1))
              case measure => omega
              case rel =>
                refine ⟨jj + 1, by omega, by omega, by go_num, ⟨?_⟩⟩
                have hoi := HOI.out
                have hg1 : W.grownBy w1 v.ownBlock := ⟨HG1.out.os, HG1.out.tape, HG1.out.output, HG1.out.size, HG1.out.block⟩
                have hg2 := HG2.out
                have hbase := own_base hoi.1
                have hms := Nat.lt_of_lt_of_le hbw hg1.size
                refine ⟨HW3.b.groups hoi hg1 hg2 HW3.b.size (by omega) (by omega), (hg2.block _ (by omega) (by simp)).trans ((hg1.block _ hbw hne3).trans HW3.box), ?_, ⟨m + 1, _, HO2.out, ?_, hD.put _ _, fun i => ?_⟩⟩
                · obtain ⟨rv, hr, hrs⟩ := HW3.res
                  exact ⟨rv, (hg2.block _ (by omega) (by simp)).trans ((hg1.block _ (by omega) (fun e => by have := hbase _ e.symm; omega)).trans hr), hrs⟩
                · rw [HX2.out, occS_append, ← List.append_assoc, List.length_append]
                  exact Nat.succ_le_succ hm
                · rw [HX2.out, occS_append, ← List.append_assoc]
                  show _ = whoOf (_ ++ [(n, (kk : Int))]) i
                  rw [whoOf_snoc]
                  by_cases e : n = i
                  · subst e
                    rw [Maps.atKey_put_same hD (law_int.key hkey), if_pos rfl, itemsOf_row (hoi.appended HO1.out (WalkArith.wf_i64 ⟨by omega, by omega⟩)), ← hit n, HAT.out, itemsOf_row hoi]
                  · rw [Maps.atKey_put_other (fun h => e (by simpa using h.symm)), if_neg e, List.append_nil]
                    exact hit i
        · have hltz2 : ¬ (jj : Int) < (p.f1.length : Int) := by omega
          have hjl : jj = p.f1.length := by omega
          subst hjl
          go_wp2_with fail
          go_roundg (L.length - (kk + 1))
          case measure => omega
          case rel =>
            refine ⟨kk + 1, by omega, by omega, by go_num, ⟨?_⟩⟩
            have h := HW2.out
            rw [List.take_length] at h
            rw [HX.out, occ_snoc, List.length_take, Nat.min_eq_left (by omega), Int.zero_add]
            exact h
    · have hltz : ¬ (kk : Int) < (L.length : Int) := by omega
      have hkl : kk = L.length := by omega
      subst hkl
      obtain ⟨rv, hres, hrs⟩ := HW.out.res
      have hbox := HW.out.box
      rw [HAV.out] at hbox
      have x0 : wr.cell? ⟨w.heap.size + 1 + 1 + 1, 0, none⟩ = some (.int .i64 toks) := (blk_cell hbox 0).trans rfl
      have x1 : wr.cell? ⟨w.heap.size + 1 + 1 + 1, 1, none⟩ = some (.int .i64 look) := (blk_cell hbox 1).trans rfl
      have x2 : wr.cell? ⟨w.heap.size + 1 + 1 + 1, 2, none⟩ = some (.slice A2 o.length c2) := (blk_cell hbox 2).trans rfl
      have x3 : wr.cell? ⟨w.heap.size + 1 + 1 + 1, 3, none⟩ = some (.slice A3 L.length c3) := (blk_cell hbox 3).trans rfl
      have x4 : wr.cell? ⟨w.heap.size + 1 + 1 + 1, 4, none⟩ = some (.map (some (w.heap.size + 1 + 1))) := (blk_cell hbox 4).trans rfl
      obtain ⟨q0, q1, q2, q3, q4, rfl⟩ : ∃ q0 q1 q2 q3 q4, rv = #[q0, q1, q2, q3, q4] := by
        rcases rv with ⟨l⟩
        match l, hrs with
        | [q0, q1, q2, q3, q4], _ => exact ⟨q0, q1, q2, q3, q4, rfl⟩
      have y0 : wr.cell? ⟨w.heap.size + 1, 0, none⟩ = some q0 := (blk_cell hres 0).trans rfl
      have f0 := blk_frozen hres 0
      have y1 : wr.cell? ⟨w.heap.size + 1, 1, none⟩ = some q1 := (blk_cell hres 1).trans rfl
      have f1 := blk_frozen hres 1
      have y2 : wr.cell? ⟨w.heap.size + 1, 2, none⟩ = some q2 := (blk_cell hres 2).trans rfl
      have f2 := blk_frozen hres 2
      have y3 : wr.cell? ⟨w.heap.size + 1, 3, none⟩ = some q3 := (blk_cell hres 3).trans rfl
      have f3 := blk_frozen hres 3
      have y4 : wr.cell? ⟨w.heap.size + 1, 4, none⟩ = some q4 := (blk_cell hres 4).trans rfl
      have f4 := blk_frozen hres 4
      have HRS := Aside0.mk hres
      clear hres hrs
      clear hbox
      go_wp2_with fail
      have hb := HW.out.b
      have hwho := HW.out.who
      rw [List.take_length] at hwho
      refine bodyPost_ret (results_cell_row rfl _ _ (w.heap.size + 1) 55 #[.int .i64 toks, .int .i64 look, .slice A2 o.length c2, .slice A3 L.length c3, .map (some (w.heap.size + 1 + 1))] (0, 0) _ rfl
        (by refine blk_put (cs := #[.int .i64 toks, .int .i64 look, .slice A2 o.length c2, .slice A3 L.length c3, q4]) ?_ 4 _ rfl
            refine blk_put (cs := #[.int .i64 toks, .int .i64 look, .slice A2 o.length c2, q3, q4]) ?_ 3 _ rfl
            refine blk_put (cs := #[.int .i64 toks, .int .i64 look, q2, q3, q4]) ?_ 2 _ rfl
            refine blk_put (cs := #[.int .i64 toks, q1, q2, q3, q4]) ?_ 1 _ rfl
            refine blk_put (cs := #[q0, q1, q2, q3, q4]) ?_ 0 _ rfl
            exact HRS.out) Try.underlying55 rfl (by kernel_rfl)) rfl ?_
      refine ⟨_, rfl, ⟨_, ((((hwho.set (by omega) (by omega) _).set (by omega) (by omega) _).set (by omega) (by omega) _).set (by omega) (by omega) _).set (by omega) (by omega) _⟩, ?_, by omega⟩
      exact below_set (below_set (below_set (below_set (below_set hb (by omega)) (by omega)) (by omega)) (by omega)) (by omega)
def IsK (g : Nat) (lb : Array Value) (is : S59 → List Bool → Bool) (n : Nat) (w : World) : Prop :=
  ∀ (W : World) (s : S59) (m : List Bool) (A : Option Addr) (c : Nat), Below w.heap.size w W → SymOk n s → m.length = n → Kd.C Kd.bool W A m.length m → m.length ≤ c →
    Calls Try.prog g (#[.agg #[.bool s.f0, .int .i64 s.f1], .slice A m.length c] ++ lb) W fun e w' => e = .returned (.bool (is s m)) ∧ Below W.heap.size W w'
set_option maxHeartbeats 2000000 in
theorem empty_grow1 {gi gm g n c : Nat} {lb : Array Value} {is : S59 → List Bool → Bool} {A : Option Addr} {m : List Bool} (w : World) (hi : w.cell? ⟨gi, 0, none⟩ = some (.func (.func g) #[] lb)) (hm : w.cell? ⟨gm, 0, none⟩ = some (.slice A m.length c))
    (hC : Kd.C Kd.bool w A m.length m) (hc : m.length ≤ c) (hn : m.length = n) (his : IsK g lb is n w) (eg : ∀ args w, (callFunc g args).run Try.prog w = .ok (.enter g args) w) :
    PredK Try.prog true k59 79 #[.pointer (some ⟨gi, 0, none⟩), .pointer (some ⟨gm, 0, none⟩)] (fun s => !is s m) (SymOk n) w := by
  intro W s cs hb hK hs
  obtain rfl := k59_open hK
  have h0 := pw_cell_below hb hi
  have h1 := pw_cell_below hb hm
  have l0 := World.block_lt_of_cell? W _ h0
  have l1 := World.block_lt_of_cell? W _ h1
  have HC := fun (W' : World) (hb' : Below W.heap.size W W') => his W' s m A c (below_step hb hb') hs hn (Kd.C_below (Kd.C_below hC hb) hb') hc
  have HC := Aside0.mk HC
  clear hC hi hm hs his hc hn
  show Calls Try.prog 79 #[.agg #[.bool s.f0, .int .i64 s.f1], .pointer (some ⟨gi, 0, none⟩), .pointer (some ⟨gm, 0, none⟩)] W fun e w' => e = .returned (.bool (!is s m)) ∧ Below W.heap.size W w'
  generalize is s m = q at HC
  go_enter Try.func79, Try.ntmps79
  go_wp2_with fail
  refine (HC.out _ ((Below.refl _ _).alloc (Nat.le_refl _) _)).mono ?_
  rintro e w' ⟨rfl, hb'⟩
  go_wp2_with fail
  go_ret
  exact ⟨rfl, below_step ((Below.refl _ _).alloc (Nat.le_refl _) _) hb'⟩
def growG (is : S59 → List Bool → Bool) (who : List (Int × Int)) (L : List S51) : Nat → List Bool → List Int → Option (List Bool)
  | 0, _, _ => none
  | _ + 1, m, [] => some m
  | k + 1, m, i :: rest =>
    if 0 ≤ i ∧ i < (L.length : Int) ∧ 0 ≤ (rd_T51 L i).f0 ∧ (rd_T51 L i).f0 < (m.length : Int) then
      if rdOf false m (rd_T51 L i).f0 = true then growG is who L k m rest
      else if (rd_T51 L i).f1.any (fun s => !is s m) = true then growG is who L k m rest
      else if rest.length + (whoOf who (rd_T51 L i).f0).length < 17592186044416 then growG is who L k (m.set (rd_T51 L i).f0.toNat true) (rest ++ whoOf who (rd_T51 L i).f0)
      else none
    else none
structure GrowS (w wr : World) (av : Array Value) (fv : Value) (n : Nat) (m : List Bool) : Prop where
  b : Below w.heap.size w wr
  ask : wr.heap[w.heap.size]? = some (.cells av 55 (0, 0))
  isb : wr.heap[w.heap.size + 1]? = some (.cells #[fv] 62 (0, 0))
  row : Kd.R Kd.bool 4 wr w.heap.size (fun k => k = w.heap.size + 1 + 1) (.slice (some ⟨w.heap.size + 1 + 1, 0, none⟩) n n) m
  len : m.length = n
  box : wr.heap[w.heap.size + 1 + 1 + 1]? = some (.cells #[.slice (some ⟨w.heap.size + 1 + 1, 0, none⟩) n n] 35 (0, 0))
section
variable {w wr w1 : World} {av : Array Value} {fv : Value} {n : Nat} {m : List Bool}
theorem GrowS.kept (h : GrowS w wr av fv n m) (hb : Below wr.heap.size wr w1) : GrowS w w1 av fv n m :=
  ⟨below_step h.b hb, (hb.block _ (blk_lt h.ask)).trans h.ask, (hb.block _ (blk_lt h.isb)).trans h.isb, Kd.R_below h.row hb, h.len, (hb.block _ (blk_lt h.box)).trans h.box⟩
theorem GrowS.grown (h : GrowS w wr av fv n m) {row : Option Nat} (hg : wr.grownBy w1 row) (hx : ∀ k, row = some k → w.heap.size + 1 + 1 + 1 < k) : GrowS w w1 av fv n m := by
  have ne : ∀ k, k ≤ w.heap.size + 1 + 1 + 1 → some k ≠ row := fun k hk e => by have := hx k e.symm; omega
  exact ⟨pw_below_grown h.b row h.b.size hg (fun k hk => by have := hx k hk; omega), (hg.block _ (blk_lt h.ask) (ne _ (by omega))).trans h.ask, (hg.block _ (blk_lt h.isb) (ne _ (by omega))).trans h.isb,
    Kd.R_grown h.row hg (fun k hk => ne k (by omega)), h.len, (hg.block _ (blk_lt h.box) (ne _ (by omega))).trans h.box⟩
theorem GrowS.mark (h : GrowS w wr av fv n m) (i : Int) : GrowS w (wr.setCell ⟨w.heap.size + 1 + 1, i.toNat, none⟩ (.bool true)) av fv n (m.set i.toNat true) := by
  have hg := grown_set wr (w.heap.size + 1 + 1) i.toNat (.bool true)
  have hr := Kd.R_putn h.row i true
  have ne : ∀ k, k ≠ w.heap.size + 1 + 1 → some k ≠ some (w.heap.size + 1 + 1) := fun k hk e => hk (by injection e)
  exact ⟨below_set h.b (by omega), (hg.block _ (blk_lt h.ask) (ne _ (by omega))).trans h.ask, (hg.block _ (blk_lt h.isb) (ne _ (by omega))).trans h.isb, hr, by rw [List.length_set]; exact h.len, (hg.block _ (blk_lt h.box) (ne _ (by omega))).trans h.box⟩
end
set_option maxHeartbeats 4000000 in
set_option maxRecDepth 100000 in
theorem empty_grow_calls (toks look : Int) (A2 : Option Addr) (c2 : Nat) (o : List Int) (A3 : Option Addr) (c3 : Nat) (L : List S51) (gw g : Nat) (lb : Array Value) (is : S59 → List Bool → Bool) (w : World)
    (r2 : Kd.C (Kd.int .i64) w A2 o.length o) (l2 : o.length ≤ c2) (r3 : Kd.C k51 w A3 L.length L) (l3 : L.length ≤ c3) (hwho : Who w gw (occ 0 L)) (hlen : (occ 0 L).length ≤ 1000000000)
    (hok : ∀ p ∈ L, 0 ≤ p.f0 ∧ p.f0 < (o.length : Int) ∧ ∀ s ∈ p.f1, SymOk o.length s) (hom : o.length ≤ 1000000000) (hLm : L.length ≤ 1000000000) (his : IsK g lb is o.length w) (eg : ∀ args w, (callFunc g args).run Try.prog w = .ok (.enter g args) w)
    (K : Nat) (r : List Bool) (h : growG is (occ 0 L) L K (List.replicate o.length false) (upTo L.length) = some r) :
    Calls Try.prog 67 #[.agg #[.int .i64 toks, .int .i64 look, .slice A2 o.length c2, .slice A3 L.length c3, .map (some gw)], .func (.func g) #[] lb] w
      fun e w' => ∃ v, e = .returned v ∧ Kd.R Kd.bool 4 w' w.heap.size (fun _ => True) v r ∧ Below w.heap.size w w' := by
  have hmk1 := fun W => run_make_row' (P := Try.prog) 35 4 (.bool false) 1 Try.underlying35 asks_infoB rfl .i64 .i64 o.length (by omega) (by omega) W
  have hmk2 := fun W => run_make_row' (P := Try.prog) 22 3 (.int .i64 0) 8 Try.underlying22 asks_infoI rfl .i64 .i64 L.length (by omega) (by omega) W
  have HR3 := Aside0.mk r3
  have HW := Aside0.mk hwho
  have HOK := Aside0.mk hok
  have HLEN := Aside0.mk hlen
  have HIS := Aside0.mk his
  have H0 := Aside0.mk h
  clear r2 r3 hwho hok hlen his h
  go_enter Try.func67, Try.ntmps67
  go_wp2_with fail
  obtain ⟨av, hav⟩ : ∃ av : Array Value, av = #[.int .i64 toks, .int .i64 look, .slice A2 o.length c2, .slice A3 L.length c3, .map (some gw)] := ⟨_, rfl⟩
  have HAV := Aside0.mk hav
  clear hav
  go_loopg [21] L.length (fun gg v21 wr => ∃ kk : Nat, kk ≤ L.length ∧ L.length - kk ≤ gg ∧ v21 = .int .i64 kk ∧ Aside0 (GrowS w wr av (.func (.func g) #[] lb) o.length (List.replicate o.length false)) ∧ Aside0 (Kd.R (Kd.int .i64) 3 wr (w.heap.size + 1 + 1 + 1 + 1) (fun _ => True) (.slice (some ⟨w.heap.size + 1 + 1 + 1 + 1, 0, none⟩) L.length L.length) (upTo kk ++ List.replicate (L.length - kk) 0)))
  case atStart =>
    refine ⟨0, Nat.zero_le _, by omega, rfl, ⟨?_, ?_, ?_, ?_, ?_, ?_⟩, ⟨?_⟩⟩
    · repeat (first | exact Below.refl _ _ | apply below_alloc)
    · rw [HAV.out]; exact hp_old (hp_old (hp_old (hp_old (hp_new (by simp)))))
    · exact hp_old (hp_old (hp_old (hp_new (by simp))))
    · refine Kd.R_below (Kd.R_below (w1 := World.alloc _ _) ?_ (below_alloc (Below.refl _ _) _)) (below_alloc (Below.refl _ _) _)
      have h := R_madeS (enc := Value.bool) (h1 := fun _ => rfl) false ((w.alloc (.cells #[.int .i64 toks, .int .i64 look, .slice A2 o.length c2, .slice A3 L.length c3, .map (some gw)] 55)).alloc (.cells #[.func (.func g) #[] lb] 62)) w.heap.size 4 o.length (by simp; omega) (by omega) (ok := fun k => k = w.heap.size + 1 + 1) (by simp)
      simp at h
      exact h
    · simp
    · exact hp_old (hp_new (by simp))
    · have h := R_madeS (enc := Value.int .i64) (h1 := fun _ => rfl) 0 ((((w.alloc (.cells #[.int .i64 toks, .int .i64 look, .slice A2 o.length c2, .slice A3 L.length c3, .map (some gw)] 55)).alloc (.cells #[.func (.func g) #[] lb] 62)).alloc (.cells (madeCells #[.bool false] o.length) 4)).alloc (.cells #[.slice (some ⟨w.heap.size + 1 + 1, 0, none⟩) o.length o.length] 35)) (w.heap.size + 1 + 1 + 1 + 1) 3 L.length (by simp) (by omega) (ok := fun _ => True) trivial
      simp at h
      exact h
  case round =>
    obtain ⟨kk, hkk, hg, rfl, HS, HQ⟩ := hrel
    by_cases hlt : kk < L.length
    · have hltz : (kk : Int) < (L.length : Int) := by omega
      obtain ⟨hx, hf⟩ := Kd.R_celln 0 HQ.out (kk : Int) (by omega) (by omega)
      rw [Int.toNat_natCast] at hx hf
      go_wp2_with fail
      go_roundg (L.length - (kk + 1))
      case measure => omega
      case rel =>
        refine ⟨kk + 1, by omega, by omega, by go_num, ⟨HS.out.grown (grown_set _ _ _ _) (fun k e => by cases e; omega)⟩, ⟨?_⟩⟩
        have h := Kd.R_putn HQ.out (kk : Int) (kk : Int)
        rw [Int.toNat_natCast, fill_step _ _ hlt] at h
        exact h
    · have hkl : kk = L.length := by omega
      subst hkl
      have HQ2 := Aside0.mk (QInts.of_R HQ.out)
      rw [Nat.sub_self, List.replicate_zero, List.append_nil] at HQ2
      clear HQ
      go_wp2_with fail
      go_loopg [6] K (fun kq v6 wr => ∃ (m : List Bool) (l : List Int), Aside0 (growG is (occ 0 L) L kq m l = some r) ∧ Aside0 (GrowS w wr av (.func (.func g) #[] lb) o.length m) ∧ Aside0 (QInts wr (w.heap.size + 1 + 1 + 1 + 1) 3 v6 l))
      case atStart => exact ⟨_, _, H0, HS, HQ2⟩
      case round =>
        clear HS HQ2 H0
        obtain ⟨m, l, HG, HS, HQ⟩ := hrel
        obtain ⟨A, c, rfl, hc⟩ := HQ.out.slice
        have hlm := HQ.out.max_
        cases gk with
        | zero => exact absurd HG.out (by simp [growG])
        | succ k1 =>
          cases l with
          | nil =>
            have hfin : m = r := by have := HG.out; simpa [growG] using this
            subst hfin
            have hbx : wr.cell? ⟨w.heap.size + 1 + 1 + 1, 0, none⟩ = some (.slice (some ⟨w.heap.size + 1 + 1, 0, none⟩) o.length o.length) := (blk_cell HS.out.box 0).trans rfl
            go_wp2_with fail
            go_ret
            exact ⟨_, rfl, Kd.R_mono HS.out.row (fun _ _ => trivial), HS.out.b⟩
          | cons i rest =>
            have H := HG.out
            clear HG
            unfold growG at H
            by_cases hin : 0 ≤ i ∧ i < (L.length : Int) ∧ 0 ≤ (rd_T51 L i).f0 ∧ (rd_T51 L i).f0 < (m.length : Int)
            · rw [if_pos hin] at H
              obtain ⟨i0, i1, p0, p1⟩ := hin
              have H' := Aside0.mk H
              clear H
              obtain ⟨adw, hA, hcw⟩ := HQ.out.head_
              subst hA
              obtain ⟨ad, A1, c1, hA3, hx0, hx1, l1, r1⟩ := at_T51 HR3.out i i0 i1
              subst hA3
              replace hx0 := pw_cell_below HS.out.b hx0
              replace hx1 := pw_cell_below HS.out.b hx1
              have hLc : wr.cell? ⟨w.heap.size, 3, none⟩ = some (.slice (some ad) L.length c3) := (blk_cell HS.out.ask 3).trans (by rw [HAV.out]; rfl)
              have hpos : (0 : Int) < ((rest.length : Nat) + 1 : Int) := by omega
              simp only [List.length_cons] at hlm hc
              have HR1 := Aside0.mk r1
              have HL1 := Aside0.mk l1
              have ne1 := World.new_ne wr _ hLc
              have ne2 := World.new_ne wr _ hcw
              have ne3 := World.new_ne wr _ hx0
              have ne4 := World.new_ne wr _ hx1
              have HP := Aside0.mk (HOK.out (rd_T51 L i) (by
                have e : rd_T51 L i = L[i.toNat]'(by omega) := by unfold rd_T51; rw [List.getD_eq_getElem?_getD, List.getElem?_eq_getElem (by omega)]; rfl
                rw [e]; exact List.getElem_mem _))
              obtain ⟨vt, hvt⟩ : ∃ vt : Value, vt = .slice (if c = 1 then some adw else (some adw).map (·.add 1)) rest.length (c - 1) := ⟨_, rfl⟩
              have HT := Aside0.mk (show QInts wr (w.heap.size + 1 + 1 + 1 + 1) 3 vt rest by rw [hvt]; exact HQ.out.drop_)
              have hcut : ∀ W, (Instr.slice 22 (.slice (some adw) (rest.length + 1) c) (some (.int .i64 1)) none none).run Try.prog W = .ok vt W := by
                intro W
                obtain ⟨j0, hj, hj2⟩ := Option.map_eq_some_iff.1 asks_infoI
                simp only [Prod.mk.injEq] at hj2
                rw [hvt, cut_from 22 3 .i64 Try.underlying22 hj 1 hj2.2.1 (some adw) (rest.length + 1) c 1 (by omega) (by omega) W]
                simp
              clear hvt HQ
              have hbox1 : ((wr.alloc (.cells #[.int .i64 (rd_T51 L i).f0, .slice A1 (rd_T51 L i).f1.length c1] 51)).drew).heap[wr.heap.size]? = some (.cells #[.int .i64 (rd_T51 L i).f0, .slice A1 (rd_T51 L i).f1.length c1] 51 (0, 0)) := hp_new (w := wr) rfl
              have hb1 : Below wr.heap.size wr ((wr.alloc (.cells #[.int .i64 (rd_T51 L i).f0, .slice A1 (rd_T51 L i).f1.length c1] 51)).drew) := below_drew1 (below_alloc (Below.refl _ _) _)
              have HS1 := Aside0.mk (HS.out.kept hb1)
              have HT1 := Aside0.mk (HT.out.below hb1)
              have hgp : w.heap.size + 1 + 1 + 1 < wr.heap.size := blk_lt HS.out.box
              clear r1 l1
              go_wp2_with fail
              go_region_held3 (fun w' => w'.cell? ⟨w.heap.size, 3, none⟩ = some (.slice (some ad) L.length c3) ∧ w'.cell? adw = some (.int .i64 i) ∧ w'.cell? (ad.add (i.toNat * 2)) = some (.int .i64 (rd_T51 L i).f0) ∧ w'.cell? ⟨(ad.add (i.toNat * 2)).block, (ad.add (i.toNat * 2)).off + 1, none⟩ = some (.slice A1 (rd_T51 L i).f1.length c1))
                (go_keep) (fail)
              clear HS HT hx0 hx1 hLc hcw ne1 ne2 ne3 ne4 hb1
              generalize (wr.alloc (.cells #[.int .i64 (rd_T51 L i).f0, .slice A1 (rd_T51 L i).f1.length c1] 51)).drew = W1 at hbox1 HS1 HT1
              generalize wr.heap.size = gp at hbox1 hgp
              have hbx : W1.cell? ⟨w.heap.size + 1 + 1 + 1, 0, none⟩ = some (.slice (some ⟨w.heap.size + 1 + 1, 0, none⟩) o.length o.length) := (blk_cell HS1.out.box 0).trans rfl
              have hp0 : W1.cell? ⟨gp, 0, none⟩ = some (.int .i64 (rd_T51 L i).f0) := (blk_cell hbox1 0).trans rfl
              have hp1 : W1.cell? ⟨gp, 1, none⟩ = some (.slice A1 (rd_T51 L i).f1.length c1) := (blk_cell hbox1 1).trans rfl
              have hmo : m.length = o.length := HS1.out.len
              have p1' : (rd_T51 L i).f0 < (o.length : Int) := by omega
              obtain ⟨hmc, hmf⟩ := Kd.R_celln false HS1.out.row (rd_T51 L i).f0 p0 p1'
              have HR1' := Aside0.mk (Kd.C_below HR1.out HS1.out.b)
              have HPC := fun (W : World) (hb : Below W1.heap.size W1 W) => api_Sym_45.calls A1 c1 (rd_T51 L i).f1 79 #[.pointer (some ⟨w.heap.size + 1, 0, none⟩), .pointer (some ⟨w.heap.size + 1 + 1 + 1, 0, none⟩)] (fun s => !is s m) W (Kd.C_below HR1'.out hb) HL1.out
                (fun args w => enters_ Try.func79 (by kernel_rfl) rfl args w)
                (fun W2 s cs hb2 hK hs => empty_grow1 (A := some ⟨w.heap.size + 1 + 1, 0, none⟩) (m := m) (c := o.length) W1 ((blk_cell HS1.out.isb 0).trans rfl) (by rw [hmo]; exact hbx) (Kd.R_reads' HS1.out.row).2.2 (by omega) hmo (fun W3 s m A c hb3 h1 h2 h3 h4 => HIS.out W3 s m A c (below_step HS1.out.b hb3) h1 h2 h3 h4) eg W2 s cs (below_step hb hb2) hK (HP.out.2.2 s hs))
              have HPC := Aside0.mk HPC
              by_cases hmk : rdOf false m (rd_T51 L i).f0 = true
              · have H2 := H'.out
                rw [if_pos hmk] at H2
                have H3 := Aside0.mk H2
                rw [hmk] at hmc
                clear hmk H2 HPC
                go_wp2_with fail
                go_roundg k1
                case measure => omega
                case rel => exact ⟨m, rest, H3, HS1, HT1⟩
              · have H2 := H'.out
                rw [if_neg hmk] at H2
                have hmk2 : rdOf false m (rd_T51 L i).f0 = false := by simpa using hmk
                rw [hmk2] at hmc
                clear hmk hmk2
                generalize ((rd_T51 L i).f1.any fun s => !is s m) = q at HPC H2
                go_wp2_with fail
                refine (HPC.out _ (Below.refl _ _)).mono ?_
                rintro e w' ⟨rfl, hb'⟩
                have HS2 := Aside0.mk (HS1.out.kept hb')
                have HT2 := Aside0.mk (HT1.out.below hb')
                have hp0' := pw_cell_below hb' hp0
                have hbx' := pw_cell_below hb' hbx
                clear HPC HT1 hmc hmf hp0 hp1 hbx hb' HS1 hbox1
                cases q with
                | true =>
                  rw [if_pos rfl] at H2
                  have H3 := Aside0.mk H2
                  clear H2
                  go_wp2_with fail
                  go_roundg k1
                  case measure => omega
                  case rel => exact ⟨m, rest, H3, HS2, HT2⟩
                | false =>
                  rw [if_neg (by decide)] at H2
                  by_cases hroom : rest.length + (whoOf (occ 0 L) (rd_T51 L i).f0).length < 17592186044416
                  · rw [if_pos hroom] at H2
                    have H3 := Aside0.mk H2
                    have HRM := Aside0.mk hroom
                    clear H2 hroom
                    obtain ⟨hmc, hmf⟩ := Kd.R_celln false HS2.out.row (rd_T51 L i).f0 p0 p1'
                    go_wp2_with (first | ((with_reducible refine gate_store (t := 4) (p := 56) rfl ?_); refine store_event (t := 4) (p := 56) (v := ?vo_w24) (w1 := (w'.setCell ⟨w.heap.size + 1 + 1, (rd_T51 L i).f0.toNat, none⟩ (.bool true))) ?hg ?ho ?hn ?hr ?_; (case ho => rfl); (case hg => rfl); (case hn => rfl); (case hr => first | (go_simp; done) | (go_simp; rfl)); intro W3 hw; have HS3 := Aside0.mk (show GrowS w W3 av (.func (.func g) #[] lb) o.length (m.set (rd_T51 L i).f0.toNat true) by rw [hw]; exact HS2.out.mark _); have HT3 := Aside0.mk (show QInts W3 (w.heap.size + 1 + 1 + 1 + 1) 3 vt rest by rw [hw]; exact HT2.out.grown (grown_set _ _ _ _) (fun k e => by cases e; omega)); have hp3 : W3.cell? ⟨gp, 0, none⟩ = some (.int .i64 (rd_T51 L i).f0) := (by rw [hw, cell_far (by show gp ≠ w.heap.size + 1 + 1; omega)]; exact hp0'); clear hw HS2 HT2 hmc hmf hp0' hbx'; have hwc : W3.cell? ⟨w.heap.size, 4, none⟩ = some (.map (some gw)) := (blk_cell HS3.out.ask 4).trans (by rw [HAV.out]; rfl); obtain ⟨base, hwb⟩ := HW.out.kept HS3.out.b; obtain ⟨n0, D, hown, hn, hD, hit⟩ := hwb.out; have hlen := HLEN.out; obtain ⟨v2, zs, hrun, hat, hoi, hzl, hback⟩ := hown.at law_int Try.underlying53 (zero_ints _) (by unfold maxLen; omega) (Maps.keyOf_int_mk (P := Try.prog) (k := 3) Try.underlying3 (a := (rd_T51 L i).f0) (WalkArith.wf_i64 ⟨by omega, by omega⟩)); have hz : zs = whoOf (occ 0 L) (rd_T51 L i).f0 := (by rw [← hit, hat, itemsOf_row hoi]); clear hback hat hit hD hn hown hwb hlen hzl; subst hz; obtain ⟨A4, c4, rfl, hc4, hC4⟩ := ints_read hoi; clear hoi; obtain ⟨j0, hj, hj2⟩ := Option.map_eq_some_iff.1 asks_infoI; simp only [Prod.mk.injEq] at hj2; obtain ⟨v5, W5, hrun5, HQ4, HG4, HA4⟩ := HT3.out.append_ (P := Try.prog) 22 22 j0 (.int .i64 0) Try.underlying22 hj hj2.1 hj2.2.1 hj2.2.2 rfl (A := A4) (c := c4) hC4 HRM.out (by have := blk_lt HS3.out.box; omega); replace HQ4 := Aside0.mk HQ4; replace HG4 := Aside0.mk HG4; clear HA4 hC4 hc4 hj hj2; replace hrun5 := Aside0.mk hrun5) | ((with_reducible refine gate_builtin (b := .append) (xs := #[.tmp 57, .tmp 62]) rfl ?_); (try (refine gate_guard (by rfl) ?_; dsimp only)); at_builtin; refine wp_append_run rfl (.tmp 57) (.tmp 62) 22 rfl (by rfl) (by rfl) hrun5.out ?_))
                    go_roundg k1
                    case measure => omega
                    case rel => exact ⟨_, _, H3, ⟨HS3.out.grown HG4.out (fun k e => by have := HT3.out.base_ k e; omega)⟩, HQ4⟩
                  · rw [if_neg hroom] at H2
                    exact absurd H2 (by simp)
            · rw [if_neg hin] at H
              exact absurd H (by simp)
def empty_marksF (is : S59 → List Bool → Bool) (toks look : Int) (o : List Int) (L : List S51) : Option (List Bool × Int) :=
  if bnf_mayB toks look o L = 0 then (growG is (occ 0 L) L (L.length + o.length * (occ 0 L).length + 1) (List.replicate o.length false) (upTo L.length)).map (fun m => (m, 0)) else some ([], bnf_mayB toks look o L)
def empty_marksP (r1 : List Bool) (r2 : Int) (w : World) (e : Ending) (w' : World) : Prop := ∃ v0_ : Value, e = .returned (.tuple #[v0_, .int .i64 r2]) ∧ Kd.R Kd.bool 4 w' w.heap.size (fun _ => True) v0_ r1 ∧ Below w.heap.size w w'
set_option maxHeartbeats 4000000 in
set_option maxRecDepth 100000 in
theorem empty_marks_calls (toks look : Int) (A2 : Option Addr) (c2 : Nat) (o : List Int) (A3 : Option Addr) (c3 : Nat) (L : List S51) (g : Nat) (lb : Array Value) (is : S59 → List Bool → Bool) (r1 : List Bool) (r2i : Int) (w : World)
    (r2 : Kd.C (Kd.int .i64) w A2 o.length o) (l2 : o.length ≤ c2) (r3 : Kd.C k51 w A3 L.length L) (l3 : L.length ≤ c3) (his : ∀ n W, IsK g lb is n W) (eg : ∀ args w, (callFunc g args).run Try.prog w = .ok (.enter g args) w)
    (h : empty_marksF is toks look o L = some (r1, r2i)) :
    Calls Try.prog 42 #[.agg #[.int .i64 toks, .int .i64 look, .slice A2 o.length c2, .slice A3 L.length c3], .func (.func g) #[] lb] w (empty_marksP r1 r2i w) := by
  obtain ⟨W1, hW1⟩ : ∃ W1, W1 = w.alloc (.cells #[.int .i64 toks, .int .i64 look, .slice A2 o.length c2, .slice A3 L.length c3] 25) := ⟨_, rfl⟩
  have hb1 : Below w.heap.size w W1 := by rw [hW1]; exact below_alloc (Below.refl _ _) _
  have hbx : W1.heap[w.heap.size]? = some (.cells #[.int .i64 toks, .int .i64 look, .slice A2 o.length c2, .slice A3 L.length c3] 25 (0, 0)) := by rw [hW1]; exact hp_new rfl
  have HM := fun (W : World) (hb : Below w.heap.size w W) => bnf_may_calls toks look A2 c2 o A3 c3 L W (Kd.C_below r2 hb) l2 (Kd.C_below r3 hb) l3
  have HM := Aside0.mk HM
  have HR2 := Aside0.mk r2
  have HR3 := Aside0.mk r3
  have HIS := Aside0.mk his
  have HB1 := Aside0.mk hb1
  have HBX := Aside0.mk hbx
  have HH := Aside0.mk h
  have x0 : W1.cell? ⟨w.heap.size, 0, none⟩ = some (.int .i64 toks) := (blk_cell hbx 0).trans rfl
  have x1 : W1.cell? ⟨w.heap.size, 1, none⟩ = some (.int .i64 look) := (blk_cell hbx 1).trans rfl
  have x2 : W1.cell? ⟨w.heap.size, 2, none⟩ = some (.slice A2 o.length c2) := (blk_cell hbx 2).trans rfl
  have x3 : W1.cell? ⟨w.heap.size, 3, none⟩ = some (.slice A3 L.length c3) := (blk_cell hbx 3).trans rfl
  have HOK := Aside0.mk (fun e : bnf_mayB toks look o L = 0 => bnf_may_ok e)
  have HF := Aside0.mk (show ∀ q : Int, bnf_mayB toks look o L = q → (q = 0 ∧ r2i = 0 ∧ growG is (occ 0 L) L (L.length + o.length * (occ 0 L).length + 1) (List.replicate o.length false) (upTo L.length) = some r1) ∨ (q ≠ 0 ∧ r1 = [] ∧ r2i = q) from by
    intro q hq
    unfold empty_marksF at h
    rw [hq] at h
    by_cases e : q = 0
    · rw [if_pos e] at h
      obtain ⟨m, h1, h2⟩ := Option.map_eq_some_iff.1 h
      simp only [Prod.mk.injEq] at h2
      exact .inl ⟨e, h2.2.symm, by rw [h1, h2.1]⟩
    · rw [if_neg e] at h
      simp only [Option.some.injEq, Prod.mk.injEq] at h
      exact .inr ⟨e, h.1.symm, h.2.symm⟩)
  clear r2 r3 his hb1 hbx h HH
  generalize hq : bnf_mayB toks look o L = q at HM HOK
  have HQ := HF.out q hq
  have HQ := Aside0.mk HQ
  clear HF hq
  go_enter Try.func42, Try.ntmps42
  go_wp2_with fail
  rw [← hW1]
  clear hW1
  refine (HM.out _ HB1.out).mono ?_
  rintro e w1 ⟨rfl, hb2⟩
  have HB2 := Aside0.mk (below_step HB1.out hb2)
  have y0 := pw_cell_below hb2 x0
  have y1 := pw_cell_below hb2 x1
  have y2 := pw_cell_below hb2 x2
  have y3 := pw_cell_below hb2 x3
  clear x0 x1 x2 x3 hb2 HBX HM
  rcases HQ.out with ⟨rfl, rfl, hG⟩ | ⟨hq0, rfl, rfl⟩
  · have HG := Aside0.mk hG
    have hk := HOK.out rfl
    have hlen : (occ 0 L).length ≤ 1000000000 := by
      have := occ_len L 0 (fun p hp => (hk.2.2.2 p hp).1)
      omega
    have HA := Aside0.mk (empty_asks_calls toks look A2 c2 o A3 c3 L w1 (Kd.C_below HR2.out HB2.out) l2 (Kd.C_below HR3.out HB2.out) l3 (fun p hp s hs ht => by
      have := (hk.2.2.2 p hp).2.2.2 s hs ht
      omega) hlen)
    have HK := Aside0.mk hk
    have HLN := Aside0.mk hlen
    clear hG hk hlen HQ HOK
    go_wp2_with fail
    refine HA.out.mono ?_
    rintro e w2 ⟨gw, rfl, hwho, hb3, _⟩
    have HB3 := Aside0.mk (below_step HB2.out hb3)
    have HWH := Aside0.mk hwho
    have HGR := Aside0.mk (empty_grow_calls toks look A2 c2 o A3 c3 L gw g lb is w2 (Kd.C_below HR2.out HB3.out) l2 (Kd.C_below HR3.out HB3.out) l3 hwho HLN.out (fun p hp => ⟨(HK.out.2.2.2 p hp).2.1, (HK.out.2.2.2 p hp).2.2.1, fun s hs => (HK.out.2.2.2 p hp).2.2.2 s hs⟩)
      (by have := HK.out.2.1; omega) (by have := HK.out.2.2.1; omega) (HIS.out _ _) eg _ _ HG.out)
    clear hwho hb3 HA
    go_wp2_with fail
    refine HGR.out.mono ?_
    rintro e w3 ⟨v, rfl, hr, hb4⟩
    have HR := Aside0.mk (Kd.R_lower hr HB3.out.size)
    have HB4 := Aside0.mk (below_step HB3.out hb4)
    clear hr hb4 HGR
    go_wp2_with fail
    go_ret2
    exact ⟨_, rfl, HR.out, HB4.out⟩
  · have e1 : (r2i != 0) = true := bne_iff_ne.mpr hq0
    have e2 : decide (r2i ≠ 0) = true := decide_eq_true hq0
    clear HQ hq0
    go_wp2_with fail
    go_ret2
    exact ⟨_, rfl, Kd.R_nil _ _ _ _ _, HB2.out⟩
def isNothing (s : S59) (m : List Bool) : Bool := !s.f0 && rdOf false m s.f1
set_option maxHeartbeats 2000000 in
theorem empty_nothing1 (n : Nat) (w : World) : IsK 43 #[] isNothing n w := by
  intro W s m A c hb hs hn hC hc
  obtain ⟨tok, x⟩ := s
  show Calls Try.prog 43 #[.agg #[.bool tok, .int .i64 x], .slice A m.length c] W fun e w' => e = .returned (.bool (!tok && rdOf false m x)) ∧ Below W.heap.size W w'
  cases tok with
  | true =>
    clear hC
    go_enter Try.func43, Try.ntmps43
    go_wp2_with fail
    go_ret
    exact ⟨rfl, below_alloc (Below.refl _ _) _⟩
  | false =>
    obtain ⟨x0, x1⟩ := hs rfl
    obtain ⟨ad, hA, hx⟩ := Kd.at_bool hC x x0 (by show x < (m.length : Int); rw [hn]; exact x1)
    subst hA
    have x1' : x < (m.length : Int) := by rw [hn]; exact x1
    have hx0 : (0 : Int) ≤ x := x0
    have hnew := World.block_lt_of_cell? W _ hx
    clear hC x1 hn hs
    have hx' := hx
    generalize rdOf false m x = q at hx hx'
    go_enter Try.func43, Try.ntmps43
    go_wp2_with fail
    go_ret
    exact ⟨by simp, below_alloc (Below.refl _ _) _⟩
def empty_Nothing.f (a0 a1 : Int) (l2 : List Int) (l3 : List S51) : Option (List Bool × Int) := empty_marksF isNothing a0 a1 l2 l3
set_option maxHeartbeats 2000000 in
theorem empty_Nothing.calls (toks look : Int) (A2 : Option Addr) (c2 : Nat) (o : List Int) (A3 : Option Addr) (c3 : Nat) (L : List S51) (r1 : List Bool) (r2i : Int) (w : World)
    (r2 : Kd.C (Kd.int .i64) w A2 o.length o) (l2 : o.length ≤ c2) (r3 : Kd.C k51 w A3 L.length L) (l3 : L.length ≤ c3) (h : empty_Nothing.f toks look o L = some (r1, r2i)) :
    Calls Try.prog 16 #[.agg #[.int .i64 toks, .int .i64 look, .slice A2 o.length c2, .slice A3 L.length c3]] w fun e w' => ∃ v0_ : Value, e = .returned (.tuple #[v0_, .int .i64 r2i]) ∧ Kd.R Kd.bool 4 w' w.heap.size (fun _ => True) v0_ r1 ∧ Below w.heap.size w w' := by
  have HM0 := fun (W : World) (hb : Below w.heap.size w W) => empty_marks_calls toks look A2 c2 o A3 c3 L 43 #[] isNothing r1 r2i W (Kd.C_below r2 hb) l2 (Kd.C_below r3 hb) l3 (fun n W => empty_nothing1 n W) (fun args w => enters_ Try.func43 (by kernel_rfl) rfl args w) h
  have HM := Aside0.mk HM0
  clear r2 r3 h HM0
  go_enter Try.func16, Try.ntmps16
  go_wp2_with fail
  refine (HM.out _ (below_alloc (Below.refl _ _) _)).mono ?_
  rintro e w1 ⟨v, rfl, hr, hb⟩
  have HR := Aside0.mk (Kd.R_lower hr (below_size (below_alloc (Below.refl _ _) _)))
  have HB := Aside0.mk (below_step (below_alloc (Below.refl _ _) _) hb)
  clear hr hb HM
  go_wp2_with fail
  go_ret2
  exact ⟨_, rfl, HR.out, HB.out⟩
def slices_Index_int_int.l0 : Nat → List Int → Int → Int → Int → Option (Int)
  | 0, _, _, _, _ => none
  | k + 1, x0, x1, x7, x8 => if x8 < x7 then (if 0 ≤ x8 then (if x8 < (x0.length : Int) then (if x1 = (rd x0 x8) then (some x8) else (slices_Index_int_int.l0 k x0 x1 x7 (wrap64 (x8 + 1)))) else (none)) else (none)) else (some (-1))
def slices_Index_int_int.f (k : Nat) (l0 : List Int) (a1 : Int) : Option (Int) := slices_Index_int_int.l0 k l0 a1 (l0.length : Int) 0
set_option maxHeartbeats 8000000 in
set_option maxRecDepth 100000 in
theorem slices_Index_int_int.calls (k : Nat) (A0 : Option Addr) (c0 : Nat) (l0 : List Int) (a1 : Int) (r : Int) (w : World) (hr0 : Kd.C (Kd.int .i64) w A0 l0.length l0) (hc0 : l0.length ≤ c0) (h : slices_Index_int_int.f k l0 a1 = some r) :
    Calls Try.prog 82 #[.slice A0 l0.length c0, .int .i64 a1] w fun e w' => e = .returned (.int .i64 r) ∧ Drawn0 w w' := by
  have HR0 := Aside0.mk hr0
  have HC0 := Aside0.mk hc0
  clear hr0 hc0
  have H : (slices_Index_int_int.l0 k l0 a1 (l0.length : Int) 0) = some r := h
  clear h
  have H' := Aside0.mk H
  clear H
  go_enter Try.func82, Try.ntmps82
  go_wp2
  (try (with_reducible (show Code.wp _ _ _ (Act.put _ _ _) _); go_simp))
  go_loopg [8] k (fun kq v8 w' => ∃ (x8_1 : Int), v8 = .int .i64 x8_1 ∧ Aside0 (slices_Index_int_int.l0 kq l0 a1 (l0.length : Int) x8_1 = some r) ∧ Aside0 (kq ≤ k) ∧ Drawn0 w w')
  case atStart => exact ⟨(0), (by first | rfl | (simp; done) | (simp [*]; done)), H', ⟨Nat.le_refl _⟩, by repeat (first | exact Drawn0.refl _ | apply Drawn0.step)⟩
  case round =>
    clear H'
    try clear p2
    obtain ⟨x8_1, rfl, HA, HK1, ⟨m1, rfl⟩⟩ := hrel
    cases gk with
    | zero => exact absurd HA.out (by simp [slices_Index_int_int.l0])
    | succ k1 =>
      have H := HA.out
      clear HA
      simp only [slices_Index_int_int.l0] at H
      by_cases c3 : x8_1 < (l0.length : Int)
      · rw [if_pos c3] at H
        have c3b0 : decide (x8_1 < (l0.length : Int)) = true := decide_eq_true c3
        clear c3
        by_cases c4 : 0 ≤ x8_1
        · rw [if_pos c4] at H
          have c4b0 : decide (0 ≤ x8_1) = true := decide_eq_true c4
          clear c4
          by_cases c5 : x8_1 < (l0.length : Int)
          · rw [if_pos c5] at H
            have c5b0 : decide (x8_1 < (l0.length : Int)) = true := decide_eq_true c5
            clear c5
            by_cases c6 : a1 = (rd l0 x8_1)
            · rw [if_pos c6] at H
              have c6b0 : (a1 == (rd l0 x8_1)) = true := beq_iff_eq.mpr c6
              have c6b1 : (a1 != (rd l0 x8_1)) = false := bne_eq_false_iff_eq.mpr c6
              clear c6
              obtain rfl := Option.some.inj H
              have p149 : 0 ≤ (x8_1 : Int) := of_decide_eq_true (by first | (with_reducible assumption) | assumption)
              have q149 : x8_1 < (l0.length : Int) := of_decide_eq_true (by first | (with_reducible assumption) | assumption)
              obtain ⟨ad149, e149, hx149_0⟩ := Kd.at_int HR0.out x8_1 p149 q149
              cases e149
              replace p149 := eq_true p149
              replace q149 := eq_true q149
              go_wp2
              go_ret
              exact ⟨by first | rfl | (simp; done) | (simp [*]; done), by repeat (first | exact Drawn0.refl _ | apply Drawn0.step)⟩
            · rw [if_neg c6] at H
              have c6b0 : (a1 == (rd l0 x8_1)) = false := beq_eq_false_iff_ne.mpr c6
              have c6b1 : (a1 != (rd l0 x8_1)) = true := bne_iff_ne.mpr c6
              have H' := Aside0.mk H
              clear H
              have p149 : 0 ≤ (x8_1 : Int) := of_decide_eq_true (by first | (with_reducible assumption) | assumption)
              have q149 : x8_1 < (l0.length : Int) := of_decide_eq_true (by first | (with_reducible assumption) | assumption)
              obtain ⟨ad149, e149, hx149_0⟩ := Kd.at_int HR0.out x8_1 p149 q149
              cases e149
              replace p149 := eq_true p149
              replace q149 := eq_true q149
              go_wp2
              go_roundg k1
              case measure => have := HK1.out; omega
              case rel => exact ⟨(wrap64 (x8_1 + 1)), (by first | rfl | (simp; done) | (simp [*]; done)), H', ⟨by have := HK1.out; omega⟩, by repeat (first | exact Drawn0.refl _ | apply Drawn0.step)⟩
          · rw [if_neg c5] at H
            exact absurd H (by simp)
        · rw [if_neg c4] at H
          exact absurd H (by simp)
      · rw [if_neg c3] at H
        have c3b0 : decide (x8_1 < (l0.length : Int)) = false := decide_eq_false c3
        clear c3
        obtain rfl := Option.some.inj H
        go_wp2
        go_ret
        exact ⟨by first | rfl | (simp; done) | (simp [*]; done), by repeat (first | exact Drawn0.refl _ | apply Drawn0.step)⟩
def slices_Contains_int_int.f (k : Nat) (l0 : List Int) (a1 : Int) : Option (Bool) := (slices_Index_int_int.f k l0 a1).bind fun t150 => (some (decide (t150 ≥ 0)))
set_option maxHeartbeats 8000000 in
set_option maxRecDepth 100000 in
theorem slices_Contains_int_int.calls (k : Nat) (A0 : Option Addr) (c0 : Nat) (l0 : List Int) (a1 : Int) (r : Bool) (w : World) (hr0 : Kd.C (Kd.int .i64) w A0 l0.length l0) (hc0 : l0.length ≤ c0) (h : slices_Contains_int_int.f k l0 a1 = some r) :
    Calls Try.prog 81 #[.slice A0 l0.length c0, .int .i64 a1] w fun e w' => e = .returned (.bool r) ∧ Drawn0 w w' := by
  have HR0 := Aside0.mk hr0
  have HC0 := Aside0.mk hc0
  clear hr0 hc0
  have H : ((slices_Index_int_int.f k l0 a1).bind fun t150 => (some (decide (t150 ≥ 0)))) = some r := h
  clear h
  replace H := Option.bind_eq_some_iff.mp H
  obtain ⟨t150, A30, H⟩ := H
  replace H : (some (decide (t150 ≥ 0))) = some r := H
  have A3 := Aside0.mk A30
  clear A30
  obtain rfl := Option.some.inj H
  go_enter Try.func81, Try.ntmps81
  go_wp2_with (first | ((with_reducible refine gate_callee (f := 82) rfl ?_); refine goesL_ (some 7) rfl rfl Try.func82 (by kernel_rfl) rfl #[.slice A0 l0.length c0, .int .i64 a1] rfl (by (try simp only [List.map_toArray, List.map_cons, List.map_nil]); first | done | rfl | (simp only [List.length_drop, List.length_take]; rfl)) ?_; (with_reducible refine (slices_Index_int_int.calls k _ _ l0 a1 t150 _ ?side1 ?side2 A3.out).mono ?_); (case side1 => repeat (first | exact HR0.out | (with_reducible refine Kd.C_alloc ?_ _) | (with_reducible refine Kd.C_drewN ?_ _) | (with_reducible refine Kd.C_drew ?_))); (case side2 => exact HC0.out); rintro e w' ⟨rfl, ⟨nd, rfl⟩⟩; refine ⟨_, rfl, ?_⟩))
  go_ret
  exact ⟨by first | rfl | (simp; done) | (simp [*]; done), by repeat (first | exact Drawn0.refl _ | apply Drawn0.step)⟩
end Go.Proofs.Ytmpdilifoblnaaa.MReachWays
end
section
namespace Go.Proofs.Ytmpdilifoblnaaa.MReachWays
open Go.RowKit Go.Proofs.YtmpdilifoblnaaaW.PrintWords Go.Proofs.YtmpdilifoblnaaaW.PrintLast Go.Proofs.YtmpdilifoblnaaaW.PrintMore Go.Proofs.Ytmpdilifoblnaaa.Fun Go.Proofs.Ytmpdilifoblnaaa.Mem
attribute [local go_sem] max2_int min2_int max_two min_two max_three min_three max_four min_four
set_option linter.unusedVariables false
set_option linter.unusedSimpArgs false
theorem index_is (l : List Int) (m : Int) (hl : l.length ≤ 9223372036854775807) : ∀ (d k i : Nat), i + d = l.length → d < k →
    ∃ r, slices_Index_int_int.l0 k l m (l.length : Int) (i : Int) = some r ∧ (r ≥ 0 ↔ m ∈ l.drop i) := by
  intro d
  induction d with
  | zero =>
    intro k i h1 h2
    obtain ⟨k, rfl⟩ : ∃ m, k = m + 1 := ⟨k - 1, by omega⟩
    rw [slices_Index_int_int.l0, if_neg (by omega), List.drop_of_length_le (by omega)]
    exact ⟨_, rfl, by simp⟩
  | succ d ih =>
    intro k i h1 h2
    obtain ⟨k, rfl⟩ : ∃ m, k = m + 1 := ⟨k - 1, by omega⟩
    have hi : i < l.length := by omega
    have hr : rd l (i : Int) = l[i] := by unfold rd; rw [Int.toNat_natCast, List.getD_eq_getElem?_getD, List.getElem?_eq_getElem hi]; rfl
    rw [slices_Index_int_int.l0, if_pos (by omega), if_pos (by omega), if_pos (by omega), hr, List.drop_eq_getElem_cons hi]
    by_cases h : m = l[i]
    · rw [if_pos h]
      exact ⟨_, rfl, ⟨fun _ => by rw [h]; exact List.mem_cons_self, fun _ => by omega⟩⟩
    · have hw : wrap64 ((i : Int) + 1) = ((i + 1 : Nat) : Int) := by unfold wrap64; omega
      rw [if_neg h, hw]
      obtain ⟨r, e1, e2⟩ := ih k (i + 1) (by omega) (by omega)
      exact ⟨r, e1, by rw [e2, List.mem_cons]; exact ⟨fun h => .inr h, fun h' => h'.elim (fun e => absurd e h) id⟩⟩
theorem contains_is (l : List Int) (m : Int) (hl : l.length ≤ 9223372036854775807) (k : Nat) (hk : l.length < k) : slices_Contains_int_int.f k l m = some (decide (m ∈ l)) := by
  unfold slices_Contains_int_int.f slices_Index_int_int.f
  obtain ⟨r, e1, e2⟩ := index_is l m hl l.length k 0 (by omega) hk
  rw [show ((0 : Nat) : Int) = 0 from rfl] at e1
  rw [List.drop_zero] at e2
  rw [e1]
  simp only [Option.bind_some, Option.some.injEq]
  by_cases h : m ∈ l
  · rw [decide_eq_true h]; exact decide_eq_true (e2.2 h)
  · rw [decide_eq_false h]; exact decide_eq_false (fun e => h (e2.1 e))
structure Keeps (X : Nat → Prop) (w w' : World) : Prop where
  os : w'.os = w.os
  tape : w'.tape = w.tape
  output : w'.output = w.output
  size : w.heap.size ≤ w'.heap.size
  block : ∀ k, k < w.heap.size → ¬ X k → w'.heap[k]? = w.heap[k]?
section
variable {X Y : Nat → Prop} {w w1 w2 : World}
theorem Keeps.refl (X : Nat → Prop) (w : World) : Keeps X w w := ⟨rfl, rfl, rfl, Nat.le_refl _, fun _ _ _ => rfl⟩
theorem Keeps.trans (h : Keeps X w w1) (h2 : Keeps X w1 w2) : Keeps X w w2 :=
  ⟨h2.os.trans h.os, h2.tape.trans h.tape, h2.output.trans h.output, Nat.le_trans h.size h2.size, fun k hk hx => (h2.block k (Nat.lt_of_lt_of_le hk h.size) hx).trans (h.block k hk hx)⟩
theorem Keeps.below (h : Keeps X w w1) (h2 : Below w1.heap.size w1 w2) : Keeps X w w2 := h.trans ⟨h2.os, h2.tape, h2.output, h2.size, fun k hk _ => h2.block k hk⟩
theorem Keeps.of_below (h2 : Below w.heap.size w w1) : Keeps X w w1 := (Keeps.refl X w).below h2
theorem Keeps.to_below {B : Nat} (h : Keeps X w w1) (hB : B ≤ w.heap.size) (hx : ∀ k, k < B → ¬ X k) : Below B w w1 := ⟨h.os, h.tape, h.output, h.size, fun k hk => h.block k (Nat.lt_of_lt_of_le hk hB) (hx k hk)⟩
theorem Keeps.wider (h : Keeps X w w1) (hx : ∀ k, k < w.heap.size → X k → Y k) : Keeps Y w w1 := ⟨h.os, h.tape, h.output, h.size, fun k hk hy => h.block k hk (fun e => hy (hx k hk e))⟩
theorem Keeps.drew (h : Keeps X w w1) : Keeps X w w1.drew := ⟨h.os, h.tape, h.output, h.size, h.block⟩
theorem Keeps.alloc (h : Keeps X w w1) (o : Obj) : Keeps X w (w1.alloc o) := h.below (below_alloc (Below.refl _ _) _)
theorem Keeps.grown (h : Keeps X w w1) {row : Option Nat} (hg : w1.grownBy w2 row) (hr : ∀ k, row = some k → k < w1.heap.size → X k) : Keeps X w w2 :=
  h.trans ⟨hg.os, hg.tape, hg.output, hg.size, fun k hk hx => hg.block k hk (fun e => hx (hr k e.symm hk))⟩
theorem Keeps.set (h : Keeps X w w1) (g j : Nat) (u : Value) (hr : X g) : Keeps X w (w1.setCell ⟨g, j, none⟩ u) := h.grown (grown_set w1 g j u) (fun k e _ => by cases e; exact hr)
end
theorem ints_C {w : World} {base : Nat} {e : TypeId} {v : Value} {xs : List Int} (h : QInts w base e v xs) : ∃ A c, v = .slice A xs.length c ∧ xs.length ≤ c ∧ Kd.C (Kd.int .i64) w A xs.length xs := by
  obtain ⟨A, c, rfl, hc⟩ := h.slice
  refine ⟨A, c, rfl, hc, rfl, h.max_, fun hp => ?_⟩
  obtain ⟨ad, rfl, hcell⟩ := q_cells h hp
  refine ⟨ad, rfl, fun j x hj => ⟨[.int .i64 x], rfl, rfl, fun k u hk => ?_⟩⟩
  obtain ⟨rfl, rfl⟩ : k = 0 ∧ u = .int .i64 x := by
    cases k with
    | zero => exact ⟨rfl, by simpa using hk.symm⟩
    | succ k => simp at hk
  rw [Nat.add_zero, show j * (Kd.int IntKind.i64).sz = j from Nat.mul_one _]
  exact hcell j _ (by simp [nums, hj])
structure Steps (w : World) (ok : Nat → Prop) (g : Nat) (l : List (List Int)) : Prop where mk ::
  (out : ∃ f : Nat → Value, w.rowIs g 22 l.length f ∧ ok g ∧ (∀ i (h : i < l.length), QInts w 0 3 (f i) l[i]) ∧ (∀ i, i < l.length → ∀ k, (f i).ownBlock = some k → ok k) ∧
    (∀ i j, i < l.length → j < l.length → i ≠ j → ∀ k, (f i).ownBlock = some k → (f j).ownBlock ≠ some k))
section
variable {ok ok' : Nat → Prop} {w w1 : World} {g : Nat} {l : List (List Int)}
theorem Steps.move (h : Steps w ok g l) (hm : ∀ k, ok k → k < w.heap.size → w1.heap[k]? = w.heap[k]?) : Steps w1 ok g l := by
  obtain ⟨f, h1, h2, h3, h4, h5⟩ := h.out
  exact ⟨f, h1.of_block (hm g h2 h1.lt), h2, fun i hi => (h3 i hi).move fun k hk => hm k (h4 i hi k hk) ((h3 i hi).lt k hk), h4, h5⟩
theorem Steps.keeps {X : Nat → Prop} (h : Steps w ok g l) (hk : Keeps X w w1) (hx : ∀ k, ok k → ¬ X k) : Steps w1 ok g l := h.move fun k h1 h2 => hk.block k h2 (hx k h1)
theorem Steps.below (h : Steps w ok g l) (hk : Below w.heap.size w w1) : Steps w1 ok g l := h.move fun k h1 h2 => hk.block k h2
theorem Steps.wider (h : Steps w ok g l) (hx : ∀ k, k < w.heap.size → ok k → ok' k) : Steps w ok' g l := by
  obtain ⟨f, h1, h2, h3, h4, h5⟩ := h.out
  exact ⟨f, h1, hx _ h1.lt h2, h3, fun i hi k hk => hx _ ((h3 i hi).lt k hk) (h4 i hi k hk), h5⟩
theorem Steps.row (h : Steps w ok g l) (i : Nat) (hi : i < l.length) : ∃ A c, w.cell? ⟨g, i, none⟩ = some (.slice A l[i].length c) ∧ l[i].length ≤ c ∧ Kd.C (Kd.int .i64) w A l[i].length l[i] ∧ QInts w 0 3 (.slice A l[i].length c) l[i] ∧ (∀ k, (Value.slice A l[i].length c).ownBlock = some k → ok k) := by
  obtain ⟨f, h1, h2, h3, h4, h5⟩ := h.out
  obtain ⟨A, c, e, hc, hC⟩ := ints_C (h3 i hi)
  exact ⟨A, c, by rw [h1.cell hi, e], hc, hC, by rw [← e]; exact h3 i hi, by rw [← e]; exact h4 i hi⟩
theorem Steps.frozen (h : Steps w ok g l) (i : Nat) : w.frozen? ⟨g, i, none⟩ = false := by
  obtain ⟨f, h1, _⟩ := h.out
  exact h1.frozen i
theorem Steps.lt (h : Steps w ok g l) : g < w.heap.size := by
  obtain ⟨f, h1, _⟩ := h.out
  exact h1.lt
theorem Steps.made (w : World) (n : Nat) (ok : Nat → Prop) (hok : ok w.heap.size) : Steps (w.alloc (.cells (madeCells #[.slice none 0 0] n) 22)) ok w.heap.size (List.replicate n []) := by
  refine ⟨fun _ => .slice none 0 0, ?_, hok, fun i hi => ?_, fun i hi k hk => by simp [Value.ownBlock] at hk, fun i j _ _ _ k hk => by simp [Value.ownBlock] at hk⟩
  · rw [List.length_replicate]; exact World.rowIs_made w _ n _
  · rw [List.getElem_replicate]
    exact ⟨rfl, .inl ⟨rfl, none, rfl, fun a ha => by cases ha⟩⟩
end
section
variable {ok : Nat → Prop} {w w1 w2 : World} {g : Nat} {l : List (List Int)}
theorem Steps.ne (h : Steps w ok g l) {base : Nat} {v : Value} {xs : List Int} (hq : QInts w base 3 v xs) : ∀ k, v.ownBlock = some k → k ≠ g := by
  obtain ⟨f, ⟨c, h1, _⟩, _⟩ := h.out
  intro k hk e
  subst e
  obtain ⟨_, cells, hc⟩ := q_typed hq k hk
  rw [h1] at hc
  injection hc with hc
  injection hc with _ ht
  exact absurd ht (by decide)
theorem Steps.put (h : Steps w ok g l) (i : Nat) (hi : i < l.length) {v v' : Value} (hv : w.cell? ⟨g, i, none⟩ = some v) {xs' : List Int} (hg : w.grownBy w1 v.ownBlock) (hq : QInts w1 0 3 v' xs') (hat : v'.ownBlock = v.ownBlock ∨ ∃ b, v'.ownBlock = some b ∧ w.heap.size ≤ b) :
    Steps (w1.setCell ⟨g, i, none⟩ v') (fun k => ok k ∨ w.heap.size ≤ k) g (l.set i xs') ∧ (∀ k, v.ownBlock = some k → ok k ∧ k ≠ g ∧ k < w.heap.size) := by
  obtain ⟨f, h1, h2, h3, h4, h5⟩ := h.out
  obtain rfl : f i = v := Option.some.inj ((h1.cell hi).symm.trans hv)
  have hne : ∀ j (hj : j < l.length), ∀ k, (f j).ownBlock = some k → k ≠ g := fun j hj k hk => h.ne (h3 j hj) k hk
  have hgl := h1.lt
  have hgg : w1.heap[g]? = w.heap[g]? := hg.block g hgl (fun e => hne i hi g e.symm rfl)
  have hne' : ∀ k, v'.ownBlock = some k → k ≠ g := fun k hk => by
    rcases hat with e | ⟨b, e, hb⟩
    · exact hne i hi k (by rw [← e]; exact hk)
    · rw [e] at hk; injection hk with hk; omega
  refine ⟨⟨fun j => if j = i then v' else f j, ?_, .inl h2, fun j hj => ?_, fun j hj k hk => ?_, fun a b ha hb hab k hk => ?_⟩, fun k hk => ⟨h4 i hi k hk, hne i hi k hk, (h3 i hi).lt k hk⟩⟩
  · rw [List.length_set]
    exact (h1.of_block hgg).set i v'
  · rw [List.length_set] at hj
    dsimp only
    by_cases e : j = i
    · subst e
      rw [if_pos rfl, List.getElem_set_self]
      exact hq.move fun k hk => Below.heap_setCell _ _ _ _ (hne' k hk)
    · rw [if_neg e, List.getElem_set_ne (fun h => e h.symm)]
      exact (h3 j hj).move fun k hk => (Below.heap_setCell _ _ _ _ (hne j hj k hk)).trans (hg.block k ((h3 j hj).lt k hk) (fun e2 => h5 j i hj hi e k hk e2.symm))
  · rw [List.length_set] at hj
    by_cases e : j = i
    · subst e
      simp only [if_pos] at hk
      rcases hat with e | ⟨b, e, hb⟩
      · exact .inl (h4 _ hi k (by rw [← e]; exact hk))
      · rw [e] at hk; injection hk with hk; exact .inr (by omega)
    · simp only [if_neg e] at hk
      exact .inl (h4 j hj k hk)
  · rw [List.length_set] at ha hb
    dsimp only at hk ⊢
    by_cases e : a = i
    · subst e
      rw [if_neg (fun h : b = a => hab h.symm)]
      simp only [if_pos] at hk
      rcases hat with e | ⟨b', e, hb'⟩
      · exact h5 a b ha hb hab k (by rw [← e]; exact hk)
      · rw [e] at hk
        injection hk with hk
        intro e2
        have := (h3 b hb).lt k e2
        omega
    · simp only [if_neg e] at hk
      by_cases e2 : b = i
      · subst e2
        simp only [if_pos]
        rcases hat with e3 | ⟨b', e3, hb'⟩
        · rw [e3]; exact h5 a b ha hb hab k hk
        · rw [e3]
          intro e4
          injection e4 with e4
          have := (h3 a ha).lt k hk
          omega
      · simp only [if_neg e2]
        exact h5 a b ha hb hab k hk
end
theorem reach_infoI : (Try.prog.info? 3).map (fun i => (i.zero, i.size, i.bytes)) = some (some (.int .i64 0), 1, 8) := by kernel_rfl
theorem reach_infoB : (Try.prog.info? 4).map (fun i => (i.zero, i.size, i.bytes)) = some (some (.bool false), 1, 1) := by kernel_rfl
theorem reach_law_int : Maps.Keyed Try.prog 3 := Maps.int_keyed Try.underlying3
def addF (l : List (List Int)) (n m : Int) : List (List Int) := if m ∈ l.getD n.toNat [] then l else l.set n.toNat (l.getD n.toNat [] ++ [m])
theorem addF_length (l : List (List Int)) (n m : Int) : (addF l n m).length = l.length := by unfold addF; split <;> simp
theorem steps_info : (Try.prog.info? 22).map (fun i => (i.zero, i.size, i.bytes)) = some (some (.slice none 0 0), 1, 24) := by kernel_rfl
set_option maxHeartbeats 4000000 in
set_option maxRecDepth 100000 in
theorem reach_add_calls (ok : Nat → Prop) (g c : Nat) (l : List (List Int)) (n m : Int) (w : World) (hS : Steps w ok g l) (n0 : 0 ≤ n) (n1 : n < (l.length : Int)) (hl : l.length ≤ 1000000000)
    (hm0 : -9223372036854775808 ≤ m) (hm1 : m ≤ 9223372036854775807) (hroom : (l.getD n.toNat []).length < 1000000000) :
    Calls Try.prog 71 #[.slice (some ⟨g, 0, none⟩) l.length c, .int .i64 n, .int .i64 m] w fun e w' => e = .returned (.tuple #[]) ∧ Steps w' (fun k => ok k ∨ w.heap.size ≤ k) g (addF l n m) ∧ Keeps ok w w' := by
  have hi : n.toNat < l.length := by omega
  have hgd : l.getD n.toNat [] = l[n.toNat] := by rw [List.getD_eq_getElem?_getD, List.getElem?_eq_getElem hi]; rfl
  obtain ⟨A, cr, hcell, hcr, hC, hQ, _⟩ := hS.row n.toNat hi
  have hfz := hS.frozen n.toNat
  rw [hgd] at hroom
  have hCont := contains_is l[n.toNat] m hQ.max_ (l[n.toNat].length + 1) (by omega)
  have HCT := Aside0.mk (slices_Contains_int_int.calls (l[n.toNat].length + 1) A cr l[n.toNat] m (decide (m ∈ l[n.toNat])) w hC hcr hCont)
  have HS := Aside0.mk hS
  have HQ := Aside0.mk hQ
  have HRM := Aside0.mk hroom
  have hF : addF l n m = if m ∈ l[n.toNat] then l else l.set n.toNat (l[n.toNat] ++ [m]) := by unfold addF; rw [hgd]
  have HF := Aside0.mk hF
  clear hC hS hCont hF hgd hQ hroom hcr
  go_enter Try.func71, Try.ntmps71
  go_wp2_with fail
  refine HCT.out.mono ?_
  rintro e w1 ⟨rfl, hd⟩
  have hb1 := hd.below
  have hc1 := pw_cell_below hb1 hcell
  have HS1 := Aside0.mk (HS.out.below hb1)
  have HQ1 := Aside0.mk (HQ.out.below hb1)
  have hfz1 := HS1.out.frozen n.toNat
  have HB1 := Aside0.mk hb1
  clear hb1 hd HCT HS HQ hcell hfz
  by_cases hmem : m ∈ l[n.toNat]
  · rw [decide_eq_true hmem]
    have hF := HF.out
    rw [if_pos hmem] at hF
    have HF2 := Aside0.mk hF
    clear hF HF hmem
    go_wp2_with fail
    refine bodyPost_end (results_none rfl _ _ _) rfl ?_
    exact ⟨rfl, by rw [HF2.out]; exact HS1.out.wider fun _ _ h => .inl h, .of_below HB1.out⟩
  · rw [decide_eq_false hmem]
    have hF := HF.out
    rw [if_neg hmem] at hF
    have HF2 := Aside0.mk hF
    clear hF HF hmem
    obtain ⟨j0, hj, hj2⟩ := Option.map_eq_some_iff.1 reach_infoI
    simp only [Prod.mk.injEq] at hj2
    obtain ⟨W2, hW2⟩ : ∃ W2, W2 = w1.alloc (.cells #[.int .i64 m] 3) := ⟨_, rfl⟩
    have hb2 : Below w1.heap.size w1 W2 := by rw [hW2]; exact below_alloc (Below.refl _ _) _
    have hone : Kd.C (Kd.int .i64) W2 (some ⟨w1.heap.size, 0, none⟩) 1 [m] := by
      refine ⟨rfl, by decide, fun _ => ⟨_, rfl, fun j x hj => ⟨[.int .i64 x], rfl, rfl, fun k u hk => ?_⟩⟩⟩
      obtain ⟨rfl, rfl⟩ : j = 0 ∧ x = m := by
        cases j with
        | zero => exact ⟨rfl, by simpa using hj.symm⟩
        | succ j => simp at hj
      obtain ⟨rfl, rfl⟩ : k = 0 ∧ u = .int .i64 x := by
        cases k with
        | zero => exact ⟨rfl, by simpa using hk.symm⟩
        | succ k => simp at hk
      rw [hW2]
      exact (blk_cell (hp_new rfl) 0).trans rfl
    obtain ⟨v5, W5, hrun5, HQ4, HG4, HA4⟩ := (HQ1.out.below hb2).append_ (P := Try.prog) (ys := [m]) 22 22 j0 (.int .i64 0) Try.underlying22 hj hj2.1 hj2.2.1 hj2.2.2 rfl (A := some ⟨w1.heap.size, 0, none⟩) (c := 1) hone (by have := HRM.out; simp only [List.length_cons, List.length_nil]; omega) (Nat.zero_le _)
    obtain ⟨A5, c5, rfl, hc5⟩ := HQ4.slice
    have hcW2 := pw_cell_below hb2 hc1
    obtain ⟨HP, hown⟩ := (HS1.out.below hb2).put n.toNat hi hcW2 HG4 HQ4 HA4
    have hne : some g ≠ (Value.slice A l[n.toNat].length cr).ownBlock := fun e => (hown g e.symm).2.1 rfl
    have hc5' := HG4.cell hcW2 hne
    have hf5 : W5.frozen? ⟨g, n.toNat, none⟩ = false := (World.frozen?_of_block (w := W2) (a := ⟨g, n.toNat, none⟩) (HG4.block g (HS1.out.below hb2).lt hne)).trans ((HS1.out.below hb2).frozen _)
    have HKP := Aside0.mk (((Keeps.of_below (X := ok) HB1.out).below hb2).grown HG4 (fun k hk _ => (hown k hk).1))
    replace hrun5 := Aside0.mk hrun5
    replace HP := Aside0.mk HP
    have HSZ := Aside0.mk hb2.size
    have HOKG := Aside0.mk (show ok g from by obtain ⟨f, _, h2, _⟩ := HS1.out.out; exact h2)
    clear hone hb2 hj hj2 HQ4 HG4 HA4 hown hne hcW2 hc5
    go_wp2_with (first | ((with_reducible refine gate_builtin (b := .append) (xs := #[.tmp 18, .tmp 20]) rfl ?_); (try (refine gate_guard (by rfl) ?_; dsimp only)); at_builtin; refine wp_append_run rfl (.tmp 18) (.tmp 20) 22 rfl (by rfl) (by rfl) (by rw [← hW2]; exact hrun5.out) ?_))
    refine bodyPost_end (results_none rfl _ _ _) rfl ?_
    exact ⟨rfl, by rw [HF2.out]; have h := HP.out; rw [List.length_append] at h; exact h.wider fun k _ hk => hk.imp id fun h2 => by have := HB1.out.size; have := HSZ.out; omega, HKP.out.set _ _ _ HOKG.out⟩
structure RunW (w wr : World) (g : Nat) (cur : List (List Int)) (keep : Nat → Prop) : Prop where mk ::
  (out : ∃ ok, Steps wr ok g cur ∧ (∀ k, ok k → w.heap.size ≤ k) ∧ (∀ k, keep k → ¬ ok k) ∧ Below w.heap.size w wr)
section
variable {w wr w1 : World} {g : Nat} {cur cur' : List (List Int)} {keep keep' : Nat → Prop}
theorem RunW.weak (h : RunW w wr g cur keep) (hk : ∀ k, keep' k → keep k) : RunW w wr g cur keep' := by
  obtain ⟨ok, h1, h2, h3, h4⟩ := h.out
  exact ⟨ok, h1, h2, fun k hk' => h3 k (hk k hk'), h4⟩
theorem RunW.below (h : RunW w wr g cur keep) (hb : Below wr.heap.size wr w1) : RunW w w1 g cur (fun k => keep k ∨ wr.heap.size ≤ k) := by
  obtain ⟨ok, h1, h2, h3, h4⟩ := h.out
  refine ⟨fun k => ok k ∧ k < wr.heap.size, (h1.wider fun k hk ho => ⟨ho, hk⟩).below hb, fun k hk => h2 k hk.1, fun k hk ho => ?_, below_step h4 hb⟩
  rcases hk with hk | hk
  · exact h3 k hk ho.1
  · have := ho.2; omega
theorem RunW.lower (h : RunW w wr g cur keep) : Below w.heap.size w wr := by
  obtain ⟨ok, h1, h2, h3, h4⟩ := h.out
  exact h4
theorem RunW.len (h : RunW w wr g cur keep) : g < wr.heap.size := by
  obtain ⟨ok, h1, h2, h3, h4⟩ := h.out
  exact h1.lt
theorem RunW.add (h : RunW w wr g cur keep) (c : Nat) (n m : Int) (n0 : 0 ≤ n) (n1 : n < (cur.length : Int)) (hl : cur.length ≤ 1000000000)
    (hm0 : -9223372036854775808 ≤ m) (hm1 : m ≤ 9223372036854775807) (hroom : (cur.getD n.toNat []).length < 1000000000) :
    Calls Try.prog 71 #[.slice (some ⟨g, 0, none⟩) cur.length c, .int .i64 n, .int .i64 m] wr fun e w' => e = .returned (.tuple #[]) ∧ RunW w w' g (addF cur n m) (fun k => keep k ∧ k < wr.heap.size) ∧ (∀ k, keep k → k < wr.heap.size → w'.heap[k]? = wr.heap[k]?) ∧ wr.heap.size ≤ w'.heap.size := by
  obtain ⟨ok, h1, h2, h3, h4⟩ := h.out
  refine (reach_add_calls ok g c cur n m wr h1 n0 n1 hl hm0 hm1 hroom).mono ?_
  rintro e w' ⟨rfl, hS, hK⟩
  refine ⟨rfl, ⟨_, hS, fun k hk => hk.elim (h2 k) (fun hk => Nat.le_trans h4.size hk), fun k hk ho => ?_, ?_⟩, fun k hk hl => hK.block k hl (h3 k hk), hK.size⟩
  · rcases ho with ho | ho
    · exact h3 k hk.1 ho
    · have := hk.2; omega
  · exact h4.trans (hK.to_below h4.size fun k hk ho => by have := h2 k ho; omega)
end
def Rows (b : Nat) (g : List (List Int)) : Prop := ∀ i, (g.getD i []).length ≤ b
theorem Rows.add {b : Nat} {g : List (List Int)} (h : Rows b g) (n m : Int) : Rows (b + 1) (addF g n m) := by
  intro i
  have hi := h i
  have hn := h n.toNat
  unfold addF
  split
  · omega
  · by_cases e : i = n.toNat
    · subst e
      by_cases hl : n.toNat < g.length
      · rw [List.getD_eq_getElem?_getD, List.getElem?_set_self hl]
        simp only [Option.getD_some, List.length_append, List.length_cons, List.length_nil]
        omega
      · rw [List.getD_eq_getElem?_getD, List.getElem?_eq_none (by rw [List.length_set]; omega)]
        simp
    · rw [List.getD_eq_getElem?_getD, List.getElem?_set_ne (fun h => e h.symm), ← List.getD_eq_getElem?_getD]
      omega
theorem Rows.more {b b' : Nat} {g : List (List Int)} (h : Rows b g) (hb : b ≤ b') : Rows b' g := fun i => Nat.le_trans (h i) hb
theorem Rows.init (n : Nat) : Rows 0 (List.replicate n []) := by
  intro i
  rw [List.getD_eq_getElem?_getD, List.getElem?_replicate]
  split <;> simp
theorem own_base_R {α : Type} {d : Kd α} {e : Nat} {w : World} {base : Nat} {ok : Nat → Prop} {v : Value} {xs : List α} (h : d.R e w base ok v xs) : ∀ k, v.ownBlock = some k → base ≤ k := by
  obtain ⟨_, inner, ho, _⟩ := h
  exact own_base ho
theorem r_lt_own {α : Type} {d : Kd α} {e : Nat} {w : World} {base : Nat} {ok : Nat → Prop} {v : Value} {xs : List α} (h : d.R e w base ok v xs) : ∀ k, v.ownBlock = some k → k < w.heap.size := by
  obtain ⟨_, inner, ho, _⟩ := h
  exact own_lt ho
def begRow (m : List Bool) (n : Int) : List S59 → List (List Int) → List (List Int)
  | [], g => g
  | s :: r, g => if s.f0 = true then g else if rdOf false m s.f1 = true then begRow m n r (addF g n s.f1) else addF g n s.f1
def begF (m : List Bool) : List S51 → List (List Int) → List (List Int)
  | [], g => g
  | p :: r, g => begF m r (begRow m p.f0 p.f1 g)
set_option maxHeartbeats 4000000 in
set_option maxRecDepth 100000 in
theorem reach_begins_calls (toks look : Int) (A2 : Option Addr) (c2 : Nat) (o : List Int) (A3 : Option Addr) (c3 : Nat) (L : List S51) (m : List Bool) (q : Int) (w : World)
    (r2 : Kd.C (Kd.int .i64) w A2 o.length o) (l2 : o.length ≤ c2) (r3 : Kd.C k51 w A3 L.length L) (l3 : L.length ≤ c3) (hmay : bnf_mayB toks look o L = 0) (hm : empty_Nothing.f toks look o L = some (m, q)) (hml : m.length = o.length) :
    Calls Try.prog 50 #[.agg #[.int .i64 toks, .int .i64 look, .slice A2 o.length c2, .slice A3 L.length c3]] w
      fun e w' => ∃ g, e = .returned (.slice (some ⟨g, 0, none⟩) o.length o.length) ∧ Steps w' (fun k => w.heap.size ≤ k) g (begF m L (List.replicate o.length [])) ∧ Below w.heap.size w w' := by
  have hk := bnf_may_ok hmay
  have hmk := fun W => run_make_row' (P := Try.prog) 69 22 (.slice none 0 0) 24 Try.underlying69 steps_info rfl .i64 .i64 o.length (by omega) (by omega) W
  have HN := fun (W : World) (hb : Below w.heap.size w W) => empty_Nothing.calls toks look A2 c2 o A3 c3 L m q W (Kd.C_below r2 hb) l2 (Kd.C_below r3 hb) l3 hm
  replace HN := Aside0.mk HN
  have hL2 : L.length ≤ 2000 := hk.2.2.1
  have hO2 : o.length ≤ 500 := hk.2.1
  have HR3 := Aside0.mk r3
  have HK := Aside0.mk hk
  have HML := Aside0.mk hml
  clear r2 l2 r3 l3 hmay hm hk hml
  obtain ⟨fin, hfin⟩ : ∃ fin, fin = begF m L (List.replicate o.length []) := ⟨_, rfl⟩
  rw [← hfin]
  have HFIN := Aside0.mk hfin
  clear hfin
  go_enter Try.func50, Try.ntmps50
  go_wp2_with fail
  refine (HN.out _ (below_alloc (below_alloc (Below.refl _ _) _) _)).mono ?_
  rintro e w1 ⟨v, rfl, hr, hb⟩
  have hb1 := below_step (below_alloc (below_alloc (Below.refl _ _) (.cells #[.int .i64 toks, .int .i64 look, .slice A2 o.length c2, .slice A3 L.length c3] 25)) (.cells (madeCells #[.slice none 0 0] o.length) 22)) hb
  have HX := Aside0.mk (show RunW w w1 (w.heap.size + 1) (List.replicate o.length []) (fun k => v.ownBlock = some k) from by
    refine ⟨fun k => k = w.heap.size + 1, ?_, fun k hk => by omega, fun k hk e => ?_, hb1⟩
    · have h := Steps.made (w.alloc (.cells #[.int .i64 toks, .int .i64 look, .slice A2 o.length c2, .slice A3 L.length c3] 25)) o.length (fun k => k = w.heap.size + 1) (by simp)
      rw [show (w.alloc (.cells #[.int .i64 toks, .int .i64 look, .slice A2 o.length c2, .slice A3 L.length c3] 25)).heap.size = w.heap.size + 1 by simp] at h
      exact h.below hb
    · have := own_base_R hr k hk
      simp at this
      omega)
  have HM := Aside0.mk (Kd.R_lower hr (show w.heap.size ≤ _ by simp; omega))
  have x3 : w1.cell? ⟨w.heap.size, 3, none⟩ = some (.slice A3 L.length c3) := pw_cell_below hb ((blk_cell (hp_old (hp_new rfl)) 3).trans rfl)
  clear hr hb hb1 HN
  go_wp2_with fail
  go_loopg [22] L.length (fun gg v22 wr => ∃ (kk : Nat) (cur : List (List Int)), kk ≤ L.length ∧ L.length - kk ≤ gg ∧ v22 = .int .i64 kk ∧ Aside0 (begF m (L.drop kk) cur = fin) ∧ Aside0 (Rows (500 * kk) cur) ∧ cur.length = o.length ∧ Aside0 (RunW w wr (w.heap.size + 1) cur (fun k => v.ownBlock = some k)) ∧ Aside0 (Kd.R Kd.bool 4 wr w.heap.size (fun _ => True) v m))
  case atStart => exact ⟨0, _, Nat.zero_le _, by omega, rfl, ⟨by rw [List.drop_zero]; exact HFIN.out.symm⟩, ⟨Rows.init _⟩, by simp, HX, HM⟩
  case round =>
    clear HX HM HFIN x3 hmk
    obtain ⟨kk, cur, hkk, hg, rfl, HF, HRW, hcl, HX, HM⟩ := hrel
    by_cases hlt : kk < L.length
    · have hltz : (kk : Int) < (L.length : Int) := by omega
      obtain ⟨ad, cs, hA, hcl2, hK, hcell⟩ := Kd.C_get HR3.out z51 (kk : Int) (by omega) (by omega)
      have hx : L.getD (kk : Int).toNat z51 = L[kk] := by rw [Int.toNat_natCast, List.getD_eq_getElem?_getD, List.getElem?_eq_getElem hlt]; rfl
      rw [hx] at hK
      obtain ⟨A1, c1, rfl, l1, r1⟩ := k51_open hK
      have hc0 : wr.cell? (ad.add (kk * 2)) = some (.int .i64 L[kk].f0) := by have := pw_cell_below HX.out.lower (hcell 0 _ rfl); rwa [Int.toNat_natCast, Nat.add_zero] at this
      have hc1 : wr.cell? ⟨(ad.add (kk * 2)).block, (ad.add (kk * 2)).off + 1, none⟩ = some (.slice A1 L[kk].f1.length c1) := by
        have := pw_cell_below HX.out.lower (hcell 1 _ rfl)
        rw [Int.toNat_natCast] at this
        rw [← add_field _ _ 1 (by omega)]; exact this
      have HR1 := Aside0.mk r1
      have hbig1 : L[kk].f1.length ≤ 9223372036854775807 := r1.2.1
      have HP := Aside0.mk (HK.out.2.2.2 _ (List.getElem_mem hlt))
      have HF1 := HF.out
      rw [List.drop_eq_getElem_cons hlt, begF] at HF1
      have HF2 := Aside0.mk HF1
      clear HF1 HF
      generalize L[kk] = p at hc0 hc1 HR1 HP HF2 hbig1
      clear hcell hcl2 hK hx l1 r1
      subst hA
      obtain ⟨mid, hmid⟩ : ∃ mid, mid = begRow m p.f0 p.f1 cur := ⟨_, rfl⟩
      have HF3 := HF2.out
      rw [← hmid] at HF3
      have HF := Aside0.mk HF3
      have HMID := Aside0.mk hmid
      clear HF2 HF3 hmid
      go_wp2_with fail
      obtain ⟨W1, hW1⟩ : ∃ W1, W1 = wr.alloc (.cells #[.int .i64 p.f0, .slice A1 p.f1.length c1] 51) := ⟨_, rfl⟩
      have hb1 : Below wr.heap.size wr W1 := by rw [hW1]; exact below_alloc (Below.refl _ _) _
      have HBX := Aside0.mk (show W1.heap[wr.heap.size]? = some (.cells #[.int .i64 p.f0, .slice A1 p.f1.length c1] 51 (0, 0)) by rw [hW1]; exact hp_new rfl)
      have HX1 := Aside0.mk ((HX.out.below hb1).weak (keep' := fun k => v.ownBlock = some k ∨ k = wr.heap.size) (fun k hk => hk.imp id fun e => by omega))
      have HM1 := Aside0.mk (Kd.R_below HM.out hb1)
      rw [← hW1]
      clear hW1 hb1 HX HM hc0 hc1
      generalize wr.heap.size = gp at HBX HX1
      go_loopg [29] p.f1.length (fun gg v29 wr2 => ∃ (jj : Nat) (cur2 : List (List Int)), jj ≤ p.f1.length ∧ p.f1.length - jj ≤ gg ∧ v29 = .int .i64 jj ∧ Aside0 (begRow m p.f0 (p.f1.drop jj) cur2 = mid) ∧ Aside0 (Rows (500 * kk + jj) cur2) ∧ cur2.length = o.length ∧ Aside0 (RunW w wr2 (w.heap.size + 1) cur2 (fun k => v.ownBlock = some k ∨ k = gp)) ∧ Aside0 (Kd.R Kd.bool 4 wr2 w.heap.size (fun _ => True) v m) ∧ Aside0 (wr2.heap[gp]? = some (.cells #[.int .i64 p.f0, .slice A1 p.f1.length c1] 51 (0, 0))))
      case atStart => exact ⟨0, cur, Nat.zero_le _, by omega, rfl, ⟨by rw [List.drop_zero]; exact HMID.out.symm⟩, ⟨HRW.out.more (by omega)⟩, hcl, HX1, HM1, HBX⟩
      case round =>
        clear HX1 HM1 HBX HMID HRW hcl
        obtain ⟨jj, cur2, hjj, hg2, rfl, HG, HRW, hcl, HX, HM, HBX⟩ := hrel
        by_cases hlt2 : jj < p.f1.length
        · have hltz2 : (jj : Int) < (p.f1.length : Int) := by omega
          obtain ⟨ad2, cs, hA, hcl2, hK, hcell⟩ := Kd.C_get HR1.out z59 (jj : Int) (by omega) (by omega)
          have hx : p.f1.getD (jj : Int).toNat z59 = p.f1[jj] := by rw [Int.toNat_natCast, List.getD_eq_getElem?_getD, List.getElem?_eq_getElem hlt2]; rfl
          rw [hx] at hK
          obtain rfl := k59_open hK
          have hc0 : wr.cell? (ad2.add (jj * 2)) = some (.bool p.f1[jj].f0) := by have := pw_cell_below HX.out.lower (hcell 0 _ rfl); rwa [Int.toNat_natCast, Nat.add_zero] at this
          have hc1 : wr.cell? ⟨(ad2.add (jj * 2)).block, (ad2.add (jj * 2)).off + 1, none⟩ = some (.int .i64 p.f1[jj].f1) := by
            have := pw_cell_below HX.out.lower (hcell 1 _ rfl)
            rw [Int.toNat_natCast] at this
            rw [← add_field _ _ 1 (by omega)]; exact this
          have HS := Aside0.mk (HP.out.2.2.2 _ (List.getElem_mem hlt2))
          have HG1 := HG.out
          rw [List.drop_eq_getElem_cons hlt2, begRow] at HG1
          have HG2 := Aside0.mk HG1
          clear HG1 HG
          generalize p.f1[jj] = s at hc0 hc1 HS HG2
          clear hcell hcl2 hK hx
          subst hA
          obtain ⟨tok, n⟩ := s
          cases tok with
          | true =>
            have HG1 := HG2.out
            rw [if_pos rfl] at HG1
            subst HG1
            go_wp2_with fail
            go_roundg (L.length - (kk + 1))
            case measure => omega
            case rel => exact ⟨kk + 1, _, by omega, by omega, by go_num, HF, ⟨HRW.out.more (by have := HP.out.1; omega)⟩, hcl, ⟨(HX.out.below (below_alloc (Below.refl _ _) _)).weak fun k hk => .inl (.inl hk)⟩, ⟨Kd.R_below HM.out (below_alloc (Below.refl _ _) _)⟩⟩
          | false =>
            have hp0 : wr.cell? ⟨gp, 0, none⟩ = some (.int .i64 p.f0) := (blk_cell HBX.out 0).trans rfl
            have HG1 := HG2.out
            rw [if_neg (by simp)] at HG1
            replace HG2 := Aside0.mk HG1
            clear HG1
            have hN := HS.out rfl
            have hn0 : 0 ≤ n := hN.1
            have hn1 : n < (o.length : Int) := hN.2
            have HNB := Aside0.mk hN
            clear hN
            obtain ⟨gx, hgx⟩ : ∃ gx, gx = wr.heap.size := ⟨_, rfl⟩
            have HGX := Aside0.mk hgx
            obtain ⟨W2, hW2⟩ : ∃ W2, W2 = wr.alloc (.cells #[.bool false, .int .i64 n] 59) := ⟨_, rfl⟩
            have hb2 : Below wr.heap.size wr W2 := by rw [hW2]; exact below_alloc (Below.refl _ _) _
            have HBX2 := Aside0.mk ((hb2.block gp (blk_lt HBX.out)).trans HBX.out)
            have HSX := Aside0.mk (show W2.heap[gx]? = some (.cells #[.bool false, .int .i64 n] 59 (0, 0)) by rw [hW2]; exact hp_new hgx)
            have hgpl : gp < gx := by rw [hgx]; exact blk_lt HBX.out
            have hgpl0 : gp < wr.heap.size := blk_lt HBX.out
            have HX2 := Aside0.mk ((HX.out.below hb2).weak (keep' := fun k => v.ownBlock = some k ∨ k = gp ∨ k = gx) (fun k hk => by rcases hk with h | h | h; exact .inl (.inl h); exact .inl (.inr h); exact .inr (by omega)))
            have HM2 := Aside0.mk (Kd.R_below HM.out hb2)
            have HADD0 := HX2.out.add o.length p.f0 n HP.out.2.1 (by rw [hcl]; exact HP.out.2.2.1) (by omega) (by omega) (by omega) (by have := HRW.out p.f0.toNat; have := HP.out.1; omega)
            rw [hcl] at HADD0
            have HADD := Aside0.mk HADD0
            clear HADD0
            have hszW : W2.heap.size = gx + 1 := by rw [hW2, hgx]; simp
            clear hgx
            go_wp2_with fail
            rw [← hW2]
            rw [← HGX.out]
            clear HGX hgpl0
            clear hW2 hb2 HX HM HBX hc0 hc1 hp0
            refine HADD.out.mono ?_
            rintro e w3 ⟨rfl, HX3, hkeep, hsz⟩
            have HM3 := Aside0.mk (Kd.R_mono (ok' := fun _ => True) (Kd.R_step (w1 := w3) (Kd.R_tight rfl HM2.out) (fun k hk hl => hkeep k (.inl hk.symm) hl)) (fun _ _ => trivial))
            have HBX3 := Aside0.mk ((hkeep gp (.inr (.inl rfl)) (by omega)).trans HBX2.out)
            have hx1 : w3.cell? ⟨gx, 1, none⟩ = some (.int .i64 n) := (blk_cell ((hkeep gx (.inr (.inr rfl)) (by omega)).trans HSX.out) 1).trans rfl
            have HX4 := Aside0.mk (HX3.weak (keep' := fun k => v.ownBlock = some k ∨ k = gp) (fun k hk => by
              rcases hk with h | h
              · exact ⟨.inl h, r_lt_own HM2.out k h⟩
              · exact ⟨.inr (.inl h), by omega⟩))
            have hl3 : (addF cur2 p.f0 n).length = o.length := by rw [addF_length]; exact hcl
            have HR3' := Aside0.mk (HRW.out.add p.f0 n)
            clear hkeep HX3 HADD HM2 HX2 HBX2 HSX hsz hszW hgpl
            obtain ⟨Am, cm, e0⟩ := Kd.R_slice HM3.out
            subst e0
            obtain ⟨adm, e0, hxm⟩ := Kd.at_bool (Kd.R_reads' HM3.out).2.2 n hn0 (by rw [HML.out]; exact hn1)
            subst e0
            have HGQ := HG2.out
            replace HG2 := ()
            have hmn : n < (m.length : Int) := by rw [HML.out]; exact hn1
            generalize rdOf false m n = bb at HGQ hxm
            cases bb with
            | true =>
              rw [if_pos rfl] at HGQ
              replace HGQ := Aside0.mk HGQ
              go_wp2_with fail
              go_roundg (p.f1.length - (jj + 1))
              case measure => omega
              case rel => exact ⟨jj + 1, _, by omega, by omega, by go_num, HGQ, HR3', hl3, HX4, HM3, HBX3⟩
            | false =>
              rw [if_neg (by decide)] at HGQ
              subst HGQ
              go_wp2_with fail
              go_roundg (L.length - (kk + 1))
              case measure => omega
              case rel => exact ⟨kk + 1, _, by omega, by omega, by go_num, HF, ⟨HR3'.out.more (by have := HP.out.1; omega)⟩, hl3, ⟨HX4.out.weak fun k hk => .inl hk⟩, HM3⟩
        · have hltz2 : ¬ (jj : Int) < (p.f1.length : Int) := by omega
          go_wp2_with fail
          go_roundg (L.length - (kk + 1))
          case measure => omega
          case rel =>
            have e := HG.out
            rw [List.drop_of_length_le (by omega), begRow] at e
            subst e
            exact ⟨kk + 1, _, by omega, by omega, by go_num, HF, ⟨HRW.out.more (by have := HP.out.1; omega)⟩, hcl, ⟨HX.out.weak fun k hk => .inl hk⟩, HM⟩
    · have hltz : ¬ (kk : Int) < (L.length : Int) := by omega
      have hkl : kk = L.length := by omega
      subst hkl
      go_wp2_with fail
      go_ret
      obtain ⟨ok, h1, h2, h3, h4⟩ := HX.out.out
      have e := HF.out
      rw [List.drop_length] at e
      exact ⟨_, rfl, by rw [← e]; exact h1.wider fun k _ hk => h2 k hk, h4⟩
def InN (n : Nat) (g : List (List Int)) : Prop := ∀ i, ∀ x ∈ g.getD i [], 0 ≤ x ∧ x < (n : Int)
theorem InN.add {n : Nat} {g : List (List Int)} (h : InN n g) (a m : Int) (m0 : 0 ≤ m) (m1 : m < (n : Int)) : InN n (addF g a m) := by
  intro i x hx
  unfold addF at hx
  split at hx
  · exact h i x hx
  · by_cases e : i = a.toNat
    · subst e
      by_cases hl : a.toNat < g.length
      · rw [List.getD_eq_getElem?_getD, List.getElem?_set_self hl, Option.getD_some] at hx
        rcases List.mem_append.1 hx with hx | hx
        · exact h _ x hx
        · rw [List.mem_singleton.1 hx]; exact ⟨m0, m1⟩
      · rw [List.getD_eq_getElem?_getD, List.getElem?_eq_none (by rw [List.length_set]; omega)] at hx
        exact absurd hx (by simp)
    · rw [List.getD_eq_getElem?_getD, List.getElem?_set_ne (fun h => e h.symm), ← List.getD_eq_getElem?_getD] at hx
      exact h i x hx
theorem InN.init (n k : Nat) : InN n (List.replicate k []) := by
  intro i x hx
  rw [List.getD_eq_getElem?_getD, List.getElem?_replicate] at hx
  split at hx <;> simp at hx
theorem begRow_in {n : Nat} (m : List Bool) (a : Int) : ∀ (l : List S59) (g : List (List Int)), (∀ s ∈ l, s.f0 = false → 0 ≤ s.f1 ∧ s.f1 < (n : Int)) → InN n g → InN n (begRow m a l g) ∧ (begRow m a l g).length = g.length
  | [], g, _, h => ⟨h, rfl⟩
  | s :: r, g, hs, h => by
    unfold begRow
    by_cases h0 : s.f0 = true
    · rw [if_pos h0]; exact ⟨h, rfl⟩
    · have hb := hs s List.mem_cons_self (by simpa using h0)
      rw [if_neg h0]
      by_cases h1 : rdOf false m s.f1 = true
      · rw [if_pos h1]
        obtain ⟨e1, e2⟩ := begRow_in m a r (addF g a s.f1) (fun s hs' => hs s (List.mem_cons_of_mem _ hs')) (h.add a s.f1 hb.1 hb.2)
        exact ⟨e1, e2.trans (addF_length _ _ _)⟩
      · rw [if_neg h1]; exact ⟨h.add a s.f1 hb.1 hb.2, addF_length _ _ _⟩
theorem begF_in {n : Nat} (m : List Bool) : ∀ (L : List S51) (g : List (List Int)), (∀ p ∈ L, ∀ s ∈ p.f1, s.f0 = false → 0 ≤ s.f1 ∧ s.f1 < (n : Int)) → InN n g → InN n (begF m L g) ∧ (begF m L g).length = g.length
  | [], g, _, h => ⟨h, rfl⟩
  | p :: r, g, hs, h => by
    obtain ⟨e1, e2⟩ := begRow_in m p.f0 p.f1 g (hs p List.mem_cons_self) h
    obtain ⟨e3, e4⟩ := begF_in m r (begRow m p.f0 p.f1 g) (fun q hq => hs q (List.mem_cons_of_mem _ hq)) e1
    exact ⟨e3, e4.trans e2⟩
def begG (m : List Bool) (o : List Int) (L : List S51) : List (List Int) := begF m L (List.replicate o.length [])
theorem begG_ok {toks look : Int} {o : List Int} {L : List S51} (h : bnf_mayB toks look o L = 0) (m : List Bool) : InN o.length (begG m o L) ∧ (begG m o L).length = o.length := by
  obtain ⟨h1, h2⟩ := begF_in (n := o.length) m L (List.replicate o.length []) (fun p hp => ((bnf_may_ok h).2.2.2 p hp).2.2.2) (InN.init _ _)
  exact ⟨h1, h2.trans (by simp)⟩
def pairCells (xs : List (Int × Int)) : List Value := xs.flatMap fun p => [.int .i64 p.1, .int .i64 p.2]
theorem pairCells_append (xs ys : List (Int × Int)) : pairCells (xs ++ ys) = pairCells xs ++ pairCells ys := by simp [pairCells]
def putF (s : List Bool × List (Int × Int)) (n by_ : Int) : List Bool × List (Int × Int) := if rdOf false s.1 n = true then s else (s.1.set n.toNat true, s.2 ++ [(n, by_)])
structure PutW (w : World) (ok : Nat → Prop) (bs bw gs n : Nat) (s : List Bool × List (Int × Int)) : Prop where
  box : w.heap[bs]? = some (.cells #[.slice (some ⟨gs, 0, none⟩) n n] 35 (0, 0))
  row : Kd.R Kd.bool 4 w 0 (fun k => k = gs) (.slice (some ⟨gs, 0, none⟩) n n) s.1
  len : s.1.length = n
  wait : ∃ v, w.heap[bw]? = some (.cells #[v] 89 (0, 0)) ∧ QRow w 0 91 2 v s.2.length (pairCells s.2) ∧ ∀ k, v.ownBlock = some k → ok k
  ogs : ok gs
  obw : ok bw
  obs : ¬ ok bs
section
variable {w w1 w2 : World} {ok ok' : Nat → Prop} {bs bw gs n : Nat} {s : List Bool × List (Int × Int)}
theorem PutW.move (h : PutW w ok bs bw gs n s) (hm : ∀ k, (ok k ∨ k = bs) → k < w.heap.size → w1.heap[k]? = w.heap[k]?) : PutW w1 ok bs bw gs n s := by
  obtain ⟨h1, h2, h3, ⟨v, h4, h5, h6⟩, h7, h8, h9⟩ := h
  refine ⟨(hm _ (.inr rfl) (blk_lt h1)).trans h1, Kd.R_step h2 (fun k hk hl => hm k (by rw [hk]; exact .inl h7) hl), h3, ⟨v, (hm _ (.inl h8) (blk_lt h4)).trans h4, q_move h5 fun k hk => hm k (.inl (h6 k hk)) (q_lt h5 k hk), h6⟩, h7, h8, h9⟩
theorem PutW.below (h : PutW w ok bs bw gs n s) (hb : Below w.heap.size w w1) : PutW w1 ok bs bw gs n s := h.move fun k _ hl => hb.block k hl
theorem PutW.keeps {X : Nat → Prop} (h : PutW w ok bs bw gs n s) (hk : Keeps X w w1) (hx : ∀ k, (ok k ∨ k = bs) → ¬ X k) : PutW w1 ok bs bw gs n s := h.move fun k ho hl => hk.block k hl (hx k ho)
theorem PutW.wider (h : PutW w ok bs bw gs n s) (hx : ∀ k, k < w.heap.size → ok k → ok' k) (hbs : ¬ ok' bs) : PutW w ok' bs bw gs n s := by
  obtain ⟨h1, h2, h3, ⟨v, h4, h5, h6⟩, h7, h8, h9⟩ := h
  refine ⟨h1, h2, h3, ⟨v, h4, h5, fun k hk => hx k (q_lt h5 k hk) (h6 k hk)⟩, ?_, hx _ (blk_lt h4) h8, hbs⟩
  obtain ⟨_, ho⟩ := Kd.R_own h2
  exact hx _ (own_lt ho _ rfl) h7
end
theorem q_ne {w : World} {base n size g t : Nat} {e : TypeId} {v : Value} {xs : List Value} {cs : Array Value} (h : QRow w base e size v n xs) (hg : w.heap[g]? = some (.cells cs t (0, 0))) (hne : e ≠ t) : ∀ k, v.ownBlock = some k → k ≠ g := by
  intro k hk e0
  subst e0
  obtain ⟨_, cells, hc⟩ := q_typed h k hk
  rw [hg] at hc
  injection hc with hc
  injection hc with _ ht
  exact hne ht.symm
theorem step_info : (Try.prog.info? 91).map (fun i => (i.zero, i.size, i.bytes)) = some (some (.agg #[.int .i64 0, .int .i64 0]), 2, 16) := by kernel_rfl
theorem PutW.put {w w2 w5 : World} {ok : Nat → Prop} {bs bw gs n : Nat} {s : List Bool × List (Int × Int)} {a b : Int} {v5 v : Value} (h : PutW w ok bs bw gs n s) (hs : rdOf false s.1 a = false) (hb2 : Below (w.setCell ⟨gs, a.toNat, none⟩ (.bool true)).heap.size (w.setCell ⟨gs, a.toNat, none⟩ (.bool true)) w2)
    (hv : w.heap[bw]? = some (.cells #[v] 89 (0, 0))) (hq : QRow w 0 91 2 v s.2.length (pairCells s.2)) (hg : w2.grownBy w5 v.ownBlock) (hq5 : QRow w5 0 91 2 v5 (s.2.length + 1) (pairCells s.2 ++ [.int .i64 a, .int .i64 b]))
    (hat : v5.ownBlock = v.ownBlock ∨ ∃ b, v5.ownBlock = some b ∧ w2.heap.size ≤ b) (hov : ∀ k, v.ownBlock = some k → ok k) :
    PutW (w5.setCell ⟨bw, 0, none⟩ v5) (fun k => ok k ∨ w.heap.size ≤ k) bs bw gs n (putF s a b) ∧ Keeps ok w (w5.setCell ⟨bw, 0, none⟩ v5) := by
  obtain ⟨h1, h2, h3, _, h7, h8, h9⟩ := h
  have hsz : (w.setCell ⟨gs, a.toNat, none⟩ (.bool true)).heap.size = w.heap.size := by simp [World.setCell]
  rw [hsz] at hb2
  obtain ⟨_, ho⟩ := Kd.R_own h2
  have hgl : gs < w.heap.size := own_lt ho _ rfl
  have hbl := blk_lt hv
  have hbsl := blk_lt h1
  have nsv : ∀ k, v.ownBlock = some k → k ≠ bs := q_ne hq h1 (by decide)
  have nwv : ∀ k, v.ownBlock = some k → k ≠ bw := q_ne hq hv (by decide)
  have nbw : bs ≠ bw := fun e => h9 (by rw [e]; exact h8)
  have nbg : bs ≠ gs := fun e => h9 (by rw [e]; exact h7)
  have ngw : gs ≠ bw := fun e => Kd.R_ne h2 hv (by decide) (by rw [← e]; rfl)
  have ngv : ∀ k, v.ownBlock = some k → k ≠ gs := fun k hk e => by
    obtain ⟨_, cells, hc⟩ := q_typed hq k hk
    rw [e] at hc
    exact Kd.R_ne h2 hc (by decide) rfl
  have hn5 : ∀ k, v5.ownBlock = some k → k ≠ bw := fun k hk => by
    rcases hat with e | ⟨b', e, hb'⟩
    · exact nwv k (by rw [← e]; exact hk)
    · rw [e] at hk; injection hk with hk; have := hb2.size; simp only [hsz] at this; omega
  have keep : ∀ k, k < w.heap.size → k ≠ gs → k ≠ bw → v.ownBlock ≠ some k → (w5.setCell ⟨bw, 0, none⟩ v5).heap[k]? = w.heap[k]? := fun k hk n1 n2 n3 =>
    (Below.heap_setCell _ _ _ _ n2).trans ((hg.block k (by have := hb2.size; simp only [hsz] at this; omega) (fun e => n3 e.symm)).trans ((hb2.block k hk).trans (Below.heap_setCell _ _ _ _ n1)))
  have hrow := Kd.R_putn h2 a true
  have e : putF s a b = (s.1.set a.toNat true, s.2 ++ [(a, b)]) := by unfold putF; rw [if_neg (by rw [hs]; decide)]
  rw [e]
  refine ⟨⟨(keep bs hbsl nbg nbw (fun e => nsv bs e rfl)).trans h1, ?_, by rw [List.length_set]; exact h3, ⟨v5, ?_, ?_, fun k hk => ?_⟩, .inl h7, .inl h8, ?_⟩, ?_⟩
  · refine Kd.R_step hrow fun k hk _ => ?_
    subst hk
    exact (Below.heap_setCell _ _ _ _ ngw).trans ((hg.block k (by have := hb2.size; simp only [hsz] at this; omega) (fun e => ngv k e.symm rfl)).trans (hb2.block k hgl))
  · refine blk_put (cs := #[v]) ?_ 0 _ rfl
    exact (hg.block bw (by have := hb2.size; simp only [hsz] at this; omega) (fun e => nwv bw e.symm rfl)).trans ((hb2.block bw hbl).trans ((Below.heap_setCell _ _ _ _ (fun e => ngw e.symm)).trans hv))
  · rw [List.length_append, pairCells_append]
    exact q_move hq5 fun k hk => Below.heap_setCell _ _ _ _ (hn5 k hk)
  · rcases hat with e | ⟨b', e, hb'⟩
    · exact .inl (hov k (by rw [← e]; exact hk))
    · rw [e] at hk; injection hk with hk; have := hb2.size; simp only [hsz] at this; exact .inr (by omega)
  · rintro (h | h)
    · exact h9 h
    · omega
  · refine ⟨hg.os.trans (hb2.os), hg.tape.trans hb2.tape, hg.output.trans hb2.output, ?_, fun k hk hx => keep k hk (fun e => hx (by rw [e]; exact h7)) (fun e => hx (by rw [e]; exact h8)) (fun e => hx (hov k e))⟩
    have h5 := hg.size
    have h6 := hb2.size
    simp only [hsz] at h6
    simp only [World.setCell, Array.size_modify]
    omega
set_option maxHeartbeats 4000000 in
set_option maxRecDepth 100000 in
theorem reach_put_calls (ok : Nat → Prop) (bs bw gs n : Nat) (s : List Bool × List (Int × Int)) (a b : Int) (w : World) (h : PutW w ok bs bw gs n s) (a0 : 0 ≤ a) (a1 : a < (n : Int)) (b0 : -9223372036854775808 ≤ b) (b1 : b ≤ 9223372036854775807) (hn : n ≤ 1000000000) (hroom : s.2.length ≤ 1000000000) :
    Calls Try.prog 72 #[.int .i64 a, .int .i64 b, .pointer (some ⟨bs, 0, none⟩), .pointer (some ⟨bw, 0, none⟩)] w fun e w' => e = .returned (.tuple #[]) ∧ PutW w' (fun k => ok k ∨ w.heap.size ≤ k) bs bw gs n (putF s a b) ∧ Keeps ok w w' := by
  have HP := Aside0.mk h
  have hlen := h.len
  have hcs : w.cell? ⟨bs, 0, none⟩ = some (.slice (some ⟨gs, 0, none⟩) n n) := (blk_cell h.box 0).trans rfl
  obtain ⟨hmc, hmf⟩ := Kd.R_celln false h.row a a0 a1
  have hbsl := blk_lt h.box
  clear h
  generalize hq : rdOf false s.1 a = q at hmc
  cases q with
  | true =>
    have HQ := Aside0.mk hq
    clear hq
    go_enter Try.func72, Try.ntmps72
    go_wp2_with fail
    refine bodyPost_end (results_none rfl _ _ _) rfl ?_
    have e : putF s a b = s := by unfold putF; rw [if_pos HQ.out]
    rw [e]
    exact ⟨rfl, HP.out.wider (fun k _ hk => .inl hk) (fun hk => hk.elim HP.out.obs (fun h => absurd hbsl (by omega))), .refl _ _⟩
  | false =>
    have HQ := Aside0.mk hq
    clear hq
    obtain ⟨v, hv, hqr, hov⟩ := HP.out.wait
    obtain ⟨A, c, e0, hcap⟩ := q_slice hqr
    subst e0
    obtain ⟨W1, hW1⟩ : ∃ W1, W1 = w.setCell ⟨gs, a.toNat, none⟩ (.bool true) := ⟨_, rfl⟩
    obtain ⟨W2, hW2⟩ : ∃ W2, W2 = W1.alloc (.cells #[.int .i64 a, .int .i64 b] 91) := ⟨_, rfl⟩
    have hb2 : Below W1.heap.size W1 W2 := by rw [hW2]; exact below_alloc (Below.refl _ _) _
    have hsz1 : W1.heap.size = w.heap.size := by rw [hW1]; simp [World.setCell]
    have hgb : gs ≠ bw := fun e => Kd.R_ne HP.out.row hv (by decide) (by rw [← e]; rfl)
    have hwb : W1.cell? ⟨bw, 0, none⟩ = some (.slice A s.2.length c) := by rw [hW1, cell_far (fun e => hgb e.symm)]; exact (blk_cell hv 0).trans rfl
    have hwl := blk_lt hv
    have hq2 : QRow W2 0 91 2 (.slice A s.2.length c) s.2.length (pairCells s.2) := q_move hqr fun k hk => by
      have hne : k ≠ gs := fun e => by
        obtain ⟨_, cells, hc⟩ := q_typed hqr k hk
        rw [e] at hc
        exact Kd.R_ne HP.out.row hc (by decide) rfl
      exact (hb2.block k (by rw [hsz1]; exact q_lt hqr k hk)).trans (by rw [hW1]; exact Below.heap_setCell _ _ _ _ hne)
    have hnew : W2.heap[w.heap.size]? = some (.cells #[.int .i64 a, .int .i64 b] 91 (0, 0)) := by rw [hW2]; exact hp_new hsz1.symm
    obtain ⟨j0, hj, hj2⟩ := Option.map_eq_some_iff.1 step_info
    simp only [Prod.mk.injEq] at hj2
    obtain ⟨v5, W5, hrun5, hq5, hg5, hat5⟩ := q_append (P := Try.prog) W2 0 89 89 91 j0 (.agg #[.int .i64 0, .int .i64 0]) 2 16 Try.underlying89 hj hj2.1 hj2.2.1 hj2.2.2 rfl (by decide) _ _ _ hq2
      ⟨w.heap.size, 0, none⟩ 1 1 [.int .i64 a, .int .i64 b] rfl (fun j u hj => by
        match j, hj with
        | 0, hj => injection hj with hj; rw [← hj]; exact (blk_cell hnew 0).trans rfl
        | 1, hj => injection hj with hj; rw [← hj]; exact (blk_cell hnew 1).trans rfl
        | j + 2, hj => simp at hj) (by intro u hu; simp at hu; rcases hu with rfl | rfl <;> rfl) (by decide) (by unfold maxLen; omega) (by omega) (Nat.zero_le _)
    have HPP := HP.out.put (w2 := W2) (w5 := W5) (b := b) (v5 := v5) HQ.out (by rw [← hW1]; exact hb2) hv hqr hg5 hq5 hat5 hov
    have hne5 : some bw ≠ (Value.slice A s.2.length c).ownBlock := fun e => q_ne hqr hv (by decide) bw e.symm rfl
    have hc5 : W5.cell? ⟨bw, 0, none⟩ = some (.slice A s.2.length c) := hg5.cell (pw_cell_below hb2 hwb) hne5
    have hf5 : W5.frozen? ⟨bw, 0, none⟩ = false := (World.frozen?_of_block (w := W2) (a := ⟨bw, 0, none⟩) (hg5.block bw (by rw [hW2]; simp; omega) hne5)).trans ((World.frozen?_of_block (w := W1) (a := ⟨bw, 0, none⟩) (hb2.block bw (by omega))).trans ((by rw [hW1]; exact World.frozen?_of_block (a := ⟨bw, 0, none⟩) (Below.heap_setCell _ _ _ _ (fun e => hgb e.symm)) : _ = w.frozen? ⟨bw, 0, none⟩).trans (blk_frozen hv 0)))
    obtain ⟨A5, c5, e0, _⟩ := q_slice hq5
    subst e0
    replace HPP := Aside0.mk HPP
    replace hrun5 := Aside0.mk hrun5
    have HW1 := Aside0.mk hW1
    have HW2 := Aside0.mk hW2
    rw [hW1] at hwb
    clear hv hqr hov hq2 hnew hj hj2 hq5 hg5 hat5 hne5 hb2 HP HQ hW2 hW1 hcap hsz1
    go_enter Try.func72, Try.ntmps72
    go_wp2_with (first | ((with_reducible refine gate_builtin (b := .append) (xs := #[.tmp 14, .tmp 18]) rfl ?_); (try (refine gate_guard (by rfl) ?_; dsimp only)); at_builtin; refine wp_append_run rfl (.tmp 14) (.tmp 18) 89 rfl (by rfl) (by rfl) (by rw [← HW1.out, ← HW2.out]; exact hrun5.out) ?_))
    refine bodyPost_end (results_none rfl _ _ _) rfl ?_
    exact ⟨rfl, HPP.out.1, HPP.out.2⟩
end Go.Proofs.Ytmpdilifoblnaaa.MReachWays
end
section
namespace Go.Proofs.Ytmpdilifoblnaaa.MReachWays
open Go.RowKit Go.Proofs.YtmpdilifoblnaaaW.PrintWords Go.Proofs.YtmpdilifoblnaaaW.PrintLast Go.Proofs.YtmpdilifoblnaaaW.PrintMore Go.Proofs.Ytmpdilifoblnaaa.Fun Go.Proofs.Ytmpdilifoblnaaa.Mem
attribute [local go_sem] max2_int min2_int max_two min_two max_three min_three max_four min_four
set_option linter.unusedVariables false
set_option linter.unusedSimpArgs false
def walkPut (row : List Int) (by_ : Int) (s : List Bool × List (Int × Int)) : List Bool × List (Int × Int) := row.foldl (fun s n => putF s n by_) s
def walkL {σ : Type} (l : List (List Int)) (tell : σ → Int → Int → σ × Bool) : Nat → List Bool → List (Int × Int) → σ → Option σ
  | 0, _, _, _ => none
  | _ + 1, _, [], st => some st
  | k + 1, m, x :: r, st => if (tell st x.1 x.2).2 = true then walkL l tell k (walkPut (l.getD x.1.toNat []) x.1 (m, r)).1 (walkPut (l.getD x.1.toNat []) x.1 (m, r)).2 (tell st x.1 x.2).1 else some (tell st x.1 x.2).1
structure Told {σ : Type} (gt : Nat) (lb : Array Value) (w0 : World) (n : Nat) (X : Nat → Prop) (J : World → σ → Prop) (tell : σ → Int → Int → σ × Bool) (lim : σ → Nat) : Prop where
  step : ∀ st a b, lim (tell st a b).1 ≤ lim st + 1
  old : ∀ k, X k → k < w0.heap.size
  stay : ∀ W W1 st, J W st → (∀ k, X k → W1.heap[k]? = W.heap[k]?) → J W1 st
  call : ∀ W st a b, Keeps X w0 W → J W st → lim st < 1000000000 → 0 ≤ a → a < (n : Int) → -1 ≤ b → b < (n : Int) → Calls Try.prog gt (#[.int .i64 a, .int .i64 b] ++ lb) W fun e W' => e = .returned (.bool (tell st a b).2) ∧ J W' (tell st a b).1 ∧ Keeps X W W'
structure WalkW {σ : Type} (w wr : World) (n : Nat) (X : Nat → Prop) (J : World → σ → Prop) (keep : Nat → Prop) (s : List Bool × List (Int × Int)) (st : σ) : Prop where
  put : ∃ ok, PutW wr ok (w.heap.size + 1) (w.heap.size + 1 + 1) w.heap.size n s ∧ (∀ k, ok k → w.heap.size ≤ k) ∧ (∀ k, keep k → ¬ ok k)
  kp : Keeps X w wr
  j : J wr st
  bnd : ∀ p ∈ s.2, 0 ≤ p.1 ∧ p.1 < (n : Int) ∧ -1 ≤ p.2 ∧ p.2 < (n : Int)
  cnt : s.2.length ≤ s.1.count true
theorem count_set_le : ∀ (m : List Bool) (i : Nat), rdOf false m (i : Int) = false → i < m.length → (m.set i true).count true = m.count true + 1
  | [], _, _, h => absurd h (by simp)
  | b :: m, 0, h, _ => by
    have hb : b = false := h
    subst hb
    simp
  | b :: m, i + 1, h, hl => by
    have hi : rdOf false m (i : Int) = false := by
      unfold rdOf at h ⊢
      rw [Int.toNat_natCast] at h ⊢
      simpa using h
    have := count_set_le m i hi (by simpa using hl)
    rw [List.set_cons_succ, List.count_cons, List.count_cons, this]
    omega
section
variable {σ : Type} {w wr w1 : World} {n : Nat} {X : Nat → Prop} {J : World → σ → Prop} {keep keep' : Nat → Prop} {s : List Bool × List (Int × Int)} {st st1 : σ} {gt : Nat} {lb : Array Value} {tell : σ → Int → Int → σ × Bool} {lim : σ → Nat}
theorem WalkW.weak (h : WalkW w wr n X J keep s st) (hk : ∀ k, keep' k → keep k) : WalkW w wr n X J keep' s st := by
  obtain ⟨⟨ok, h1, h2, h3⟩, h4, h5, h6, h7⟩ := h
  exact ⟨⟨ok, h1, h2, fun k hk' => h3 k (hk k hk')⟩, h4, h5, h6, h7⟩
theorem WalkW.below (h : WalkW w wr n X J keep s st) (hT : Told gt lb w n X J tell lim) (hb : Below wr.heap.size wr w1) : WalkW w w1 n X J (fun k => keep k ∨ wr.heap.size ≤ k) s st := by
  obtain ⟨⟨ok, h1, h2, h3⟩, h4, h5, h6, h7⟩ := h
  refine ⟨⟨fun k => ok k ∧ k < wr.heap.size, (h1.wider (fun k hk ho => ⟨ho, hk⟩) (fun e => h1.obs e.1)).below hb, fun k hk => h2 k hk.1, fun k hk ho => ?_⟩, h4.below hb, hT.stay _ _ _ h5 fun k hk => hb.block k (Nat.lt_of_lt_of_le (hT.old k hk) h4.size), h6, h7⟩
  rcases hk with hk | hk
  · exact h3 k hk ho.1
  · have := ho.2; omega
theorem WalkW.putc (h : WalkW w wr n X J keep s st) (hT : Told gt lb w n X J tell lim) (a b : Int) (a0 : 0 ≤ a) (a1 : a < (n : Int)) (b0 : -1 ≤ b) (b1 : b < (n : Int)) (hn : n ≤ 1000000) :
    Calls Try.prog 72 (#[.int .i64 a, .int .i64 b] ++ #[.pointer (some ⟨w.heap.size + 1, 0, none⟩), .pointer (some ⟨w.heap.size + 1 + 1, 0, none⟩)]) wr fun e w' => e = .returned (.tuple #[]) ∧ WalkW w w' n X J (fun k => keep k ∧ k < wr.heap.size) (putF s a b) st ∧
      (∀ k, keep k → k < wr.heap.size → w'.heap[k]? = wr.heap[k]?) ∧ wr.heap.size ≤ w'.heap.size := by
  obtain ⟨⟨ok, h1, h2, h3⟩, h4, h5, h6, h7⟩ := h
  have hlen := h1.len
  have hcl : s.1.count true ≤ s.1.length := List.count_le_length
  refine (reach_put_calls ok _ _ _ n s a b wr h1 a0 a1 (by omega) (by omega) (by omega) (by omega)).mono ?_
  rintro e w' ⟨rfl, hP, hK⟩
  have hX : ∀ k, k < w.heap.size → w'.heap[k]? = wr.heap[k]? := fun k hk => hK.block k (Nat.lt_of_lt_of_le hk h4.size) (fun ho => by have := h2 k ho; omega)
  refine ⟨rfl, ⟨⟨_, hP, fun k hk => hk.elim (h2 k) (fun hk => Nat.le_trans h4.size hk), fun k hk ho => ?_⟩, ⟨hK.os.trans h4.os, hK.tape.trans h4.tape, hK.output.trans h4.output, Nat.le_trans h4.size hK.size, fun k hk hx => (hX k hk).trans (h4.block k hk hx)⟩, hT.stay _ _ _ h5 fun k hk => hX k (hT.old k hk), ?_, ?_⟩, fun k hk hl => hK.block k hl (h3 k hk), hK.size⟩
  · rcases ho with ho | ho
    · exact h3 k hk.1 ho
    · have := hk.2; omega
  · unfold putF
    split
    · exact h6
    · intro p hp
      rcases List.mem_append.1 hp with hp | hp
      · exact h6 p hp
      · obtain rfl := List.mem_singleton.1 hp
        exact ⟨a0, a1, b0, b1⟩
  · unfold putF
    split
    · exact h7
    · rename_i hq
      have e : rdOf false s.1 ((a.toNat : Nat) : Int) = false := by rw [Int.toNat_of_nonneg a0]; simpa using hq
      rw [List.length_append, count_set_le s.1 a.toNat e (by omega)]
      simp only [List.length_cons, List.length_nil]
      omega
theorem WalkW.told (h : WalkW w wr n X J keep s st) (hT : Told gt lb w n X J tell lim) (hk : ∀ k, keep k → ¬ X k) (hli : lim st < 1000000000) (a b : Int) (a0 : 0 ≤ a) (a1 : a < (n : Int)) (b0 : -1 ≤ b) (b1 : b < (n : Int)) :
    Calls Try.prog gt (#[.int .i64 a, .int .i64 b] ++ lb) wr fun e w' => e = .returned (.bool (tell st a b).2) ∧ WalkW w w' n X J (fun k => keep k ∧ k < wr.heap.size) s (tell st a b).1 ∧ (∀ k, keep k → k < wr.heap.size → w'.heap[k]? = wr.heap[k]?) ∧ wr.heap.size ≤ w'.heap.size := by
  obtain ⟨⟨ok, h1, h2, h3⟩, h4, h5, h6, h7⟩ := h
  refine (hT.call wr st a b h4 h5 hli a0 a1 b0 b1).mono ?_
  rintro e w' ⟨rfl, hJ, hK⟩
  refine ⟨rfl, ⟨⟨ok, h1.keeps hK (fun k hk hx => ?_), h2, fun k hk => h3 k hk.1⟩, h4.trans hK, hJ, h6, h7⟩, fun k hk' hl => hK.block k hl (hk k hk'), hK.size⟩
  have := hT.old k hx
  rcases hk with hk | hk
  · have := h2 k hk; omega
  · omega
end
theorem WalkW.pop {σ : Type} {w wr : World} {n : Nat} {X : Nat → Prop} {J : World → σ → Prop} {keep : Nat → Prop} {m : List Bool} {a b : Int} {r : List (Int × Int)} {st : σ} {gt : Nat} {lb : Array Value} {tell : σ → Int → Int → σ × Bool} {lim : σ → Nat}
    (h : WalkW w wr n X J keep (m, (a, b) :: r) st) (hT : Told gt lb w n X J tell lim) :
    ∃ ad c, wr.cell? ⟨w.heap.size + 1 + 1, 0, none⟩ = some (.slice (some ad) (r.length + 1) c) ∧ wr.frozen? ⟨w.heap.size + 1 + 1, 0, none⟩ = false ∧ r.length + 1 ≤ c ∧ wr.cell? ad = some (.int .i64 a) ∧ wr.cell? ⟨ad.block, ad.off + 1, none⟩ = some (.int .i64 b) ∧ w.heap.size + 1 + 1 < wr.heap.size ∧ r.length + 1 ≤ 9223372036854775807 ∧
      ∀ W1, Below wr.heap.size wr W1 → WalkW w (W1.setCell ⟨w.heap.size + 1 + 1, 0, none⟩ (.slice (if c = 1 then some ad else (some ad).map (·.add (1 * 2))) r.length (c - 1))) n X J (fun k => keep k ∨ wr.heap.size ≤ k) (m, r) st := by
  obtain ⟨⟨ok, h1, h2, h3⟩, h4, h5, h6, h7⟩ := h
  obtain ⟨v, hv, hq, ho⟩ := h1.wait
  obtain ⟨A, c, e0, hc⟩ := q_slice hq
  subst e0
  have hm := q_max hq
  obtain ⟨ad, e0, hcell⟩ := q_cells hq (by simp)
  subst e0
  have hwl := blk_lt hv
  have hc0 : wr.cell? ad = some (.int .i64 a) := by
    have := hcell 0 (.int .i64 a) rfl
    rwa [show ad.add 0 = ad by simp [Addr.add]] at this
  have had : ad.spot = none := by
    rcases hq.2 with ⟨h0, _⟩ | ⟨g, off, cap, cur, he, _⟩
    · exact absurd h0 (by simp)
    · injection he with he
      injection he with he
      rw [he]
  have hc1 : wr.cell? ⟨ad.block, ad.off + 1, none⟩ = some (.int .i64 b) := by
    have := hcell 1 (.int .i64 b) rfl
    rw [← this]
    obtain ⟨x0, x1, x2⟩ := ad
    cases had
    rfl
  refine ⟨ad, c, (blk_cell hv 0).trans rfl, blk_frozen hv 0, hc, hc0, hc1, hwl, hm, fun W1 hb => ?_⟩
  have hd := q_drop (k := 1) hq (by simp)
  have hX : ∀ k, k < w.heap.size → (W1.setCell ⟨w.heap.size + 1 + 1, 0, none⟩ (.slice (if c = 1 then some ad else (some ad).map (·.add (1 * 2))) r.length (c - 1))).heap[k]? = wr.heap[k]? := fun k hk =>
    (Below.heap_setCell _ _ _ _ (by show k ≠ w.heap.size + 1 + 1; omega)).trans (hb.block k (by omega))
  have hsz : (W1.setCell ⟨w.heap.size + 1 + 1, 0, none⟩ (.slice (if c = 1 then some ad else (some ad).map (·.add (1 * 2))) r.length (c - 1))).heap.size = W1.heap.size := by simp [World.setCell]
  refine ⟨⟨fun k => ok k ∧ k < wr.heap.size, ⟨?_, ?_, h1.len, ⟨_, blk_put (cs := #[.slice (some ad) (r.length + 1) c]) ((hb.block _ hwl).trans hv) 0 _ rfl, ?_, fun k hk => ?_⟩, ⟨h1.ogs, ?_⟩, ⟨h1.obw, hwl⟩, fun e => h1.obs e.1⟩, fun k hk => h2 k hk.1, fun k hk hx => ?_⟩, ?_, hT.stay _ _ _ h5 fun k hk => hX k (hT.old k hk), fun p hp => h6 p (List.mem_cons_of_mem _ hp), ?_⟩
  · exact (Below.heap_setCell _ _ _ _ (by show w.heap.size + 1 ≠ w.heap.size + 1 + 1; omega)).trans ((hb.block _ (by omega)).trans h1.box)
  · refine Kd.R_step h1.row fun k hk hl => ?_
    subst hk
    exact (Below.heap_setCell _ _ _ _ (by show w.heap.size ≠ w.heap.size + 1 + 1; omega)).trans (hb.block _ hl)
  · have e : (Value.slice (if c = 1 then some ad else (some ad).map (·.add (1 * 2))) r.length (c - 1)).ownBlock = some ad.block := by
      split <;> simp [Value.ownBlock, Addr.add]
    have hd2 : QRow wr 0 91 2 (.slice (if c = 1 then some ad else (some ad).map (·.add (1 * 2))) r.length (c - 1)) r.length (pairCells r) := by
      simpa [pairCells] using hd
    refine q_move hd2 fun k hk => ?_
    rw [e] at hk
    injection hk with hk
    have hne : k ≠ w.heap.size + 1 + 1 := q_ne hq hv (by decide) k (by simp [Value.ownBlock, hk])
    exact (Below.heap_setCell _ _ _ _ hne).trans (hb.block k (q_lt hq k (by simp [Value.ownBlock, hk])))
  · have e : (Value.slice (if c = 1 then some ad else (some ad).map (·.add (1 * 2))) r.length (c - 1)).ownBlock = some ad.block := by
      split <;> simp [Value.ownBlock, Addr.add]
    rw [e] at hk
    have hk2 : (Value.slice (some ad) ((a, b) :: r).length c).ownBlock = some k := by simpa [Value.ownBlock] using hk
    exact ⟨ho k hk2, q_lt hq k hk2⟩
  · have := blk_lt h1.box; omega
  · rcases hk with hk | hk
    · exact h3 k hk hx.1
    · have := hx.2; omega
  · refine ⟨hb.os.trans h4.os, hb.tape.trans h4.tape, hb.output.trans h4.output, ?_, fun k hk hx => (hX k hk).trans (h4.block k hk hx)⟩
    rw [hsz]; exact Nat.le_trans h4.size hb.size
  · simp only [List.length_cons] at h7
    show r.length ≤ m.count true
    omega
theorem WalkW.init {σ : Type} {w : World} {n : Nat} {X : Nat → Prop} {J : World → σ → Prop} {st : σ} {gt : Nat} {lb : Array Value} {tell : σ → Int → Int → σ × Bool} {lim : σ → Nat} (hT : Told gt lb w n X J tell lim) (hn : n ≤ 1000000) (hJ : J w st) :
    WalkW w (((w.alloc (.cells (madeCells #[.bool false] n) 4)).alloc (.cells #[.slice (some ⟨w.heap.size, 0, none⟩) n n] 35)).alloc (.cells #[.slice none 0 0] 89)) n X J (fun _ => False) (List.replicate n false, []) st := by
  have hb := below_alloc (below_alloc (below_alloc (Below.refl w.heap.size w) (.cells (madeCells #[.bool false] n) 4)) (.cells #[.slice (some ⟨w.heap.size, 0, none⟩) n n] 35)) (.cells #[.slice none 0 0] 89)
  refine ⟨⟨fun k => k = w.heap.size ∨ k = w.heap.size + 1 + 1, ⟨hp_old (hp_new (by simp)), ?_, by simp, ⟨.slice none 0 0, hp_new (by simp), ⟨rfl, .inl ⟨rfl, none, rfl, fun a ha => by cases ha⟩⟩, fun k hk => by simp [Value.ownBlock] at hk⟩, .inl rfl, .inr rfl, by omega⟩, fun k hk => by omega, fun k hk => hk.elim⟩, .of_below hb, hT.stay _ _ _ hJ fun k hk => hb.block k (hT.old k hk), fun p hp => absurd hp (by simp), Nat.zero_le _⟩
  refine Kd.R_below (Kd.R_below (w1 := World.alloc _ _) ?_ (below_alloc (Below.refl _ _) _)) (below_alloc (Below.refl _ _) _)
  exact R_madeS (enc := Value.bool) (h1 := fun _ => rfl) false w 0 4 n (by simp) (by omega) (ok := fun k => k = w.heap.size) rfl
set_option maxHeartbeats 8000000 in
set_option maxRecDepth 100000 in
theorem reach_walk_calls {σ : Type} {gt : Nat} {lb : Array Value} {X oks : Nat → Prop} {J : World → σ → Prop} {tell : σ → Int → Int → σ × Bool} {lim : σ → Nat} (g c : Nat) (l : List (List Int)) (Af : Option Addr) (cf : Nat) (first : List Int) (w : World) (st0 st' : σ)
    (hT : Told gt lb w l.length X J tell lim) (eg : ∀ args w, (callFunc gt args).run Try.prog w = .ok (.enter gt args) w) (hS : Steps w oks g l) (hoks : ∀ k, oks k → ¬ X k) (hf : QInts w 0 3 (.slice Af first.length cf) first) (hfx : ∀ k, (Value.slice Af first.length cf).ownBlock = some k → ¬ X k)
    (hl : l.length ≤ 1000000) (hr : ∀ i, ∀ x ∈ l.getD i [], 0 ≤ x ∧ x < (l.length : Int)) (hfr : ∀ x ∈ first, 0 ≤ x ∧ x < (l.length : Int)) (hJ : J w st0) (K : Nat) (hlim : lim st0 + K ≤ 1000000000)
    (h : walkL l tell K (walkPut first (-1) (List.replicate l.length false, [])).1 (walkPut first (-1) (List.replicate l.length false, [])).2 st0 = some st') :
    Calls Try.prog 51 #[.slice (some ⟨g, 0, none⟩) l.length c, .slice Af first.length cf, .func (.func gt) #[] lb] w fun e w' => e = .returned (.tuple #[]) ∧ J w' st' ∧ Keeps X w w' := by
  have hmk := fun W => run_make_row' (P := Try.prog) 35 4 (.bool false) 1 Try.underlying35 reach_infoB rfl .i64 .i64 l.length (by omega) (by omega) W
  have egp := fun args w => enters_ Try.func72 (by kernel_rfl) rfl args w
  have HT := Aside0.mk hT
  have HS := Aside0.mk hS
  have HOKS := Aside0.mk hoks
  have HF := Aside0.mk hf
  have HFX := Aside0.mk hfx
  have HR := Aside0.mk hr
  have HFR := Aside0.mk hfr
  have HJ := Aside0.mk hJ
  have HH := Aside0.mk h
  have HLIM := Aside0.mk hlim
  have hfm := hf.max_
  clear hT hS hoks hf hfx hr hfr hJ h hlim
  go_enter Try.func51, Try.ntmps51
  go_wp2_with fail
  obtain ⟨tgt, htgt⟩ : ∃ tgt, tgt = walkPut first (-1) (List.replicate l.length false, []) := ⟨_, rfl⟩
  have HH2 := HH.out
  rw [← htgt] at HH2
  replace HH := Aside0.mk HH2
  clear HH2
  have HTG := Aside0.mk htgt
  clear htgt
  have HW := Aside0.mk (WalkW.init HT.out hl HJ.out)
  go_loopg [20] first.length (fun gg v20 wr => ∃ (kk : Nat) (s : List Bool × List (Int × Int)), kk ≤ first.length ∧ first.length - kk ≤ gg ∧ v20 = .int .i64 kk ∧ Aside0 (walkPut (first.drop kk) (-1) s = tgt) ∧ Aside0 (WalkW w wr l.length X J (fun _ => False) s st0))
  case atStart => exact ⟨0, _, Nat.zero_le _, by omega, rfl, ⟨by rw [List.drop_zero]; exact HTG.out.symm⟩, HW⟩
  case round =>
    clear HTG HW hmk
    obtain ⟨kk, s, hkk, hg, rfl, HP, HW⟩ := hrel
    by_cases hlt : kk < first.length
    · have hltz : (kk : Int) < (first.length : Int) := by omega
      obtain ⟨A', c', e0, hc', hC⟩ := ints_C (HF.out.move (w1 := wr) fun k hk => HW.out.kp.block k (HF.out.lt k hk) (HFX.out k hk))
      injection e0 with e0 _ e1
      subst e0 e1
      obtain ⟨ad, e0, hx⟩ := Kd.at_int hC (kk : Int) (by omega) hltz
      have hrd : rd first (kk : Int) = first[kk] := by unfold rd; rw [Int.toNat_natCast, List.getD_eq_getElem?_getD, List.getElem?_eq_getElem hlt]; rfl
      subst e0
      have HB := Aside0.mk (HFR.out _ (List.getElem_mem hlt))
      have HP1 := HP.out
      rw [List.drop_eq_getElem_cons hlt] at HP1
      replace HP := Aside0.mk HP1
      rw [hrd, Int.toNat_natCast] at hx
      clear HP1 hC hrd
      generalize first[kk] = x at hx HB HP
      have HC := Aside0.mk (HW.out.putc HT.out x (-1) HB.out.1 HB.out.2 (by omega) (by have := HB.out; omega) hl)
      go_wp2_with fail
      refine HC.out.mono ?_
      rintro e w1 ⟨rfl, HW1, _, _⟩
      have HW1 := Aside0.mk (HW1.weak (keep' := fun _ => False) (fun k hk => hk.elim))
      clear HC HW hx
      go_wp2_with fail
      go_roundg (first.length - (kk + 1))
      case measure => omega
      case rel => exact ⟨kk + 1, _, by omega, by omega, by go_num, HP, HW1⟩
    · have hltz : ¬ (kk : Int) < (first.length : Int) := by omega
      have e := HP.out
      rw [List.drop_of_length_le (by omega)] at e
      have e : s = tgt := e
      subst e
      clear HP
      go_wp2_with fail
      go_loopg [] K (fun kq wr => ∃ (s : List Bool × List (Int × Int)) (st : σ), Aside0 (walkL l tell kq s.1 s.2 st = some st') ∧ Aside0 (lim st + kq ≤ 1000000000) ∧ Aside0 (WalkW w wr l.length X J (fun _ => False) s st))
      case atStart => exact ⟨_, _, HH, HLIM, HW⟩
      case round =>
        clear HW HH HLIM
        obtain ⟨⟨m, q⟩, st, HH, HLIM, HW⟩ := hrel
        cases gk with
        | zero => exact absurd HH.out (by simp [walkL])
        | succ k1 =>
          cases q with
          | nil =>
            have hfin : st = st' := by have := HH.out; simpa [walkL] using this
            subst hfin
            obtain ⟨ok, hPW, _, _⟩ := HW.out.put
            obtain ⟨v, hv, hq, _⟩ := hPW.wait
            obtain ⟨A0, c0, e0, _⟩ := q_slice hq
            subst e0
            have hbw : wr.cell? ⟨w.heap.size + 1 + 1, 0, none⟩ = some (.slice A0 0 c0) := (blk_cell hv 0).trans rfl
            clear hq hv hPW
            go_wp2_with fail
            refine bodyPost_end (results_none rfl _ _ _) rfl ?_
            exact ⟨rfl, HW.out.j, HW.out.kp⟩
          | cons x r =>
            obtain ⟨a, b⟩ := x
            have HB := Aside0.mk (HW.out.bnd _ List.mem_cons_self)
            obtain ⟨ad, c1, hbw, hbf, hc1, h0, h1, hwl, hmx, hpop⟩ := HW.out.pop HT.out
            obtain ⟨B, hB⟩ : ∃ B, B = (if c1 = 1 then some ad else (some ad).map (·.add (1 * 2))) := ⟨_, rfl⟩
            rw [← hB] at hpop
            have hcut : ∀ W, (Instr.slice 89 (.slice (some ad) (r.length + 1) c1) (some (.int .i64 1)) none none).run Try.prog W = .ok (.slice B r.length (c1 - 1)) W := by
              intro W
              obtain ⟨j0, hj, hj2⟩ := Option.map_eq_some_iff.1 step_info
              simp only [Prod.mk.injEq] at hj2
              rw [hB, cut_from 89 91 .i64 Try.underlying89 hj 2 hj2.2.1 (some ad) (r.length + 1) c1 1 (by omega) (by omega) W]
              simp
            obtain ⟨gx, hgx⟩ : ∃ gx, gx = wr.heap.size := ⟨_, rfl⟩
            obtain ⟨W1, hW1⟩ : ∃ W1, W1 = wr.setCell ⟨w.heap.size + 1 + 1, 0, none⟩ (.slice B r.length (c1 - 1)) := ⟨_, rfl⟩
            have hz1 : W1.heap.size = wr.heap.size := by rw [hW1]; simp [World.setCell]
            obtain ⟨W2, hW2⟩ : ∃ W2, W2 = W1.alloc (.cells #[.int .i64 a, .int .i64 b] 91) := ⟨_, rfl⟩
            have HW2 := Aside0.mk ((hpop wr (Below.refl _ _)).below HT.out (w1 := W2) (by rw [hW2, hW1]; exact below_alloc (Below.refl _ _) _))
            have HXB := Aside0.mk (show W2.heap[gx]? = some (.cells #[.int .i64 a, .int .i64 b] 91 (0, 0)) by rw [hW2]; exact hp_new (by omega))
            have HW3 := Aside0.mk (HW2.out.weak (keep' := fun k => k = gx) (fun k hk => .inl (.inr (by omega))))
            have HGL := Aside0.mk (show w.heap.size + 1 + 1 < gx from by rw [hgx]; exact hwl)
            have HSZ := Aside0.mk (show W2.heap.size = gx + 1 by rw [hW2, hgx, ← hz1]; simp)
            have HE2 := Aside0.mk (show W2 = (wr.setCell ⟨w.heap.size + 1 + 1, 0, none⟩ (.slice B r.length (c1 - 1))).alloc (.cells #[.int .i64 a, .int .i64 b] 91) by rw [hW2, hW1])
            have HGX := Aside0.mk hgx
            clear hpop hB HW HW2 hW2 hW1 hgx hz1
            have HTC := Aside0.mk (HW3.out.told HT.out (fun k hk hx => by have := HT.out.old k hx; have := HGL.out; omega) (by have := HLIM.out; omega) a b HB.out.1 HB.out.2.1 HB.out.2.2.1 HB.out.2.2.2)
            go_wp2_with fail
            rw [← HE2.out, ← HGX.out]
            refine HTC.out.mono ?_
            rintro e w3 ⟨rfl, HW4, hkeep, hsz⟩
            have HXB3 := Aside0.mk ((hkeep gx rfl (by rw [HSZ.out]; omega)).trans HXB.out)
            replace HW4 := Aside0.mk (HW4.weak (keep' := fun k => k = gx) (fun k hk => ⟨hk, by rw [HSZ.out]; omega⟩))
            have HH1 := HH.out
            rw [walkL] at HH1
            simp only at HH1
            have HLM1 := Aside0.mk (show lim (tell st a b).1 + k1 ≤ 1000000000 by have := HLIM.out; have := HT.out.step st a b; omega)
            generalize (tell st a b).1 = st1 at HH1 HW4 HLM1
            generalize (tell st a b).2 = tq at HH1
            clear HTC HE2 HGX HXB HW3 HSZ hkeep hsz HH hbw hbf h0 h1 hcut hc1 hwl hmx
            cases tq with
            | false =>
              rw [if_neg (by decide)] at HH1
              injection HH1 with HH1
              subst HH1
              go_wp2_with fail
              refine bodyPost_ret (results_none rfl _ _ _) rfl ?_
              exact ⟨rfl, HW4.out.j, HW4.out.kp⟩
            | true =>
              rw [if_pos rfl] at HH1
              replace HH1 := Aside0.mk HH1
              have ha0 := HB.out.1
              have ha1 := HB.out.2.1
              have hai : a.toNat < l.length := by omega
              have HRR := Aside0.mk (HR.out a.toNat)
              obtain ⟨Ar, cr, hcell0, hcr0, _, hQ0, hO0⟩ := HS.out.row a.toNat hai
              obtain ⟨_, _, hog, _⟩ := HS.out.out
              have hcr : w3.cell? ⟨g, a.toNat, none⟩ = some (.slice Ar l[a.toNat].length cr) := (World.cell?_of_block (w := w) (a := ⟨g, a.toNat, none⟩) (HW4.out.kp.block g HS.out.lt (HOKS.out g hog))).trans hcell0
              have e : l.getD a.toNat [] = l[a.toNat] := by rw [List.getD_eq_getElem?_getD, List.getElem?_eq_getElem hai]; rfl
              rw [e] at HH1 HRR
              clear hcell0 hog e
              have hgxc : w3.cell? ⟨gx, 0, none⟩ = some (.int .i64 a) := (blk_cell HXB3.out 0).trans rfl
              have HQ0 := Aside0.mk hQ0
              have HO0 := Aside0.mk hO0
              have hrm := hQ0.max_
              clear hQ0 hO0
              generalize l[a.toNat] = row at HH1 HRR hcr HQ0 HO0 hcr0 hrm
              go_wp2_with fail
              obtain ⟨t3, ht3⟩ : ∃ t3, t3 = walkPut row a (m, r) := ⟨_, rfl⟩
              have HH3 := HH1.out
              rw [← ht3] at HH3
              replace HH1 := Aside0.mk HH3
              have HT3 := Aside0.mk ht3
              clear HH3 ht3 hcr hgxc
              go_loopg [49] row.length (fun gg v49 wr2 => ∃ (jj : Nat) (s2 : List Bool × List (Int × Int)), jj ≤ row.length ∧ row.length - jj ≤ gg ∧ v49 = .int .i64 jj ∧ Aside0 (walkPut (row.drop jj) a s2 = t3) ∧ Aside0 (WalkW w wr2 l.length X J (fun k => k = gx) s2 st1) ∧ Aside0 (wr2.heap[gx]? = some (.cells #[.int .i64 a, .int .i64 b] 91 (0, 0))))
              case atStart => exact ⟨0, _, Nat.zero_le _, by omega, rfl, ⟨by rw [List.drop_zero]; exact HT3.out.symm⟩, HW4, HXB3⟩
              case round =>
                clear HT3 HW4 HXB3
                obtain ⟨jj, s2, hjj, hg2, rfl, HP, HW, HXB⟩ := hrel
                by_cases hlt2 : jj < row.length
                · have hltz2 : (jj : Int) < (row.length : Int) := by omega
                  obtain ⟨A', c', e0, hc', hC⟩ := ints_C (HQ0.out.move (w1 := wr) fun k hk => HW.out.kp.block k (HQ0.out.lt k hk) (HOKS.out k (HO0.out k hk)))
                  injection e0 with e0 _ e1
                  subst e0 e1
                  obtain ⟨ad2, e0, hx⟩ := Kd.at_int hC (jj : Int) (by omega) hltz2
                  have hrd : rd row (jj : Int) = row[jj] := by unfold rd; rw [Int.toNat_natCast, List.getD_eq_getElem?_getD, List.getElem?_eq_getElem hlt2]; rfl
                  subst e0
                  have HB2 := Aside0.mk (HRR.out _ (List.getElem_mem hlt2))
                  have HP1 := HP.out
                  rw [List.drop_eq_getElem_cons hlt2] at HP1
                  replace HP := Aside0.mk HP1
                  rw [hrd, Int.toNat_natCast] at hx
                  clear HP1 hC hrd
                  generalize row[jj] = x at hx HB2 HP
                  have HC := Aside0.mk (HW.out.putc HT.out x a HB2.out.1 HB2.out.2 (by omega) ha1 hl)
                  have hgxl := blk_lt HXB.out
                  have hgxc : wr.cell? ⟨gx, 0, none⟩ = some (.int .i64 a) := (blk_cell HXB.out 0).trans rfl
                  go_wp2_with fail
                  refine HC.out.mono ?_
                  rintro e w1 ⟨rfl, HW1, hkeep, _⟩
                  have HW1 := Aside0.mk (HW1.weak (keep' := fun k => k = gx) (fun k hk => ⟨hk, by omega⟩))
                  have HXB1 := Aside0.mk ((hkeep gx rfl hgxl).trans HXB.out)
                  clear HC HW hx hkeep HXB hgxl hgxc
                  go_wp2_with fail
                  go_roundg (row.length - (jj + 1))
                  case measure => omega
                  case rel => exact ⟨jj + 1, _, by omega, by omega, by go_num, HP, HW1, HXB1⟩
                · have hltz2 : ¬ (jj : Int) < (row.length : Int) := by omega
                  have e := HP.out
                  rw [List.drop_of_length_le (by omega)] at e
                  have e : s2 = t3 := e
                  subst e
                  clear HP
                  go_wp2_with fail
                  go_roundg k1
                  case measure => omega
                  case rel => exact ⟨_, _, HH1, HLM1, ⟨HW.out.weak fun k hk => hk.elim⟩⟩
structure WaySt where
  f : Int → Int
  c : Nat
  found : Bool
def wayTell (n : Int) (st : WaySt) (a b : Int) : WaySt × Bool := (⟨fun i => if i = a then b else st.f i, st.c + 1, decide (a = n)⟩, !decide (a = n))
structure WayJ (gb gf : Nat) (W : World) (st : WaySt) : Prop where mk ::
  (out : ∃ D : DataW Unit, W.ownsMap Try.prog 3 (plainElem Try.prog 3) gb st.c D ∧ (∀ i : Int, D.atKey (.int .i64 i) (.lit (.int .i64 0)) = .lit (.int .i64 (st.f i))) ∧ W.heap[gf]? = some (.cells #[.bool st.found] 4 (0, 0)))
theorem WayJ.move {gb gf : Nat} {W W1 : World} {st : WaySt} (h : WayJ gb gf W st) (h1 : W1.heap[gb]? = W.heap[gb]?) (h2 : W1.heap[gf]? = W.heap[gf]?) : WayJ gb gf W1 st := by
  obtain ⟨D, ⟨es, clock, hb, r⟩, h3, h4⟩ := h.out
  exact ⟨D, ⟨es, clock, h1.trans hb, r⟩, h3, h2.trans h4⟩
set_option maxHeartbeats 4000000 in
theorem reach_way1 (n : Int) (gm gb gn gf : Nat) (w0 : World) (N : Nat) (hN : N ≤ 1000000) (hm : w0.cell? ⟨gm, 0, none⟩ = some (.map (some gb))) (hn : w0.cell? ⟨gn, 0, none⟩ = some (.int .i64 n)) (m1 : gm ≠ gb) (m2 : gm ≠ gf) (n1 : gn ≠ gb) (n2 : gn ≠ gf) (hbf : gb ≠ gf) (lb : gb < w0.heap.size) (lf : gf < w0.heap.size) :
    Told 52 #[.pointer (some ⟨gm, 0, none⟩), .pointer (some ⟨gn, 0, none⟩), .pointer (some ⟨gf, 0, none⟩)] w0 N (fun k => k = gb ∨ k = gf) (WayJ gb gf) (wayTell n) WaySt.c := by
  refine ⟨fun _ _ _ => Nat.le_refl _, fun k hk => by rcases hk with rfl | rfl <;> assumption, fun W W1 st h hk => h.move (hk gb (.inl rfl)) (hk gf (.inr rfl)), fun W st a b hK hJ hli a0 a1 b0 b1 => ?_⟩
  show Calls Try.prog 52 #[.int .i64 a, .int .i64 b, .pointer (some ⟨gm, 0, none⟩), .pointer (some ⟨gn, 0, none⟩), .pointer (some ⟨gf, 0, none⟩)] W fun e W' => e = .returned (.bool (!decide (a = n))) ∧ WayJ gb gf W' ⟨fun i => if i = a then b else st.f i, st.c + 1, decide (a = n)⟩ ∧ Keeps (fun k => k = gb ∨ k = gf) W W'
  have hml := World.block_lt_of_cell? w0 _ hm
  have hnl := World.block_lt_of_cell? w0 _ hn
  have hmc : W.cell? ⟨gm, 0, none⟩ = some (.map (some gb)) := (World.cell?_of_block (w := w0) (a := ⟨gm, 0, none⟩) (hK.block gm hml (by rintro (h | h); exact m1 h; exact m2 h))).trans hm
  have hnc : W.cell? ⟨gn, 0, none⟩ = some (.int .i64 n) := (World.cell?_of_block (w := w0) (a := ⟨gn, 0, none⟩) (hK.block gn hnl (by rintro (h | h); exact n1 h; exact n2 h))).trans hn
  obtain ⟨D, hown, hat, hf⟩ := hJ.out
  have wfa : (Lit.int IntKind.i64 a).wf = true := WalkArith.wf_i64 ⟨by omega, by omega⟩
  have wfb : (Lit.int IntKind.i64 b).wf = true := WalkArith.wf_i64 ⟨by omega, by omega⟩
  have hkey := Maps.keyOf_int_mk (P := Try.prog) (k := 3) Try.underlying3 wfa
  obtain ⟨W1, hrun, hown1, hg1⟩ := hown.update (t := 71) (e := 3) reach_law_int Try.underlying71 (by unfold maxLen; omega) hkey (val := .int .i64 b) (plainElem_int Try.underlying3 wfb)
  have hD := hown.isMap
  have hwl : gn < W.heap.size := World.block_lt_of_cell? W _ hnc
  have hn1 : W1.cell? ⟨gn, 0, none⟩ = some (.int .i64 n) := hg1.cell hnc (by simpa using n1)
  have hf1 : W1.heap[gf]? = some (.cells #[.bool st.found] 4 (0, 0)) := (hg1.block gf (blk_lt hf) (by simpa using fun e => hbf e.symm)).trans hf
  have hfc : W1.cell? ⟨gf, 0, none⟩ = some (.bool st.found) := (blk_cell hf1 0).trans rfl
  have hff := blk_frozen hf1 0
  have key : ∀ q : Bool, WayJ gb gf (W1.setCell ⟨gf, 0, none⟩ (.bool q)) ⟨fun i => if i = a then b else st.f i, st.c + 1, q⟩ ∧ Keeps (fun k => k = gb ∨ k = gf) W (W1.setCell ⟨gf, 0, none⟩ (.bool q)) := fun q =>
    ⟨⟨_, hown1.setCell hbf _, fun i => by
      by_cases e : i = a
      · subst e
        rw [Maps.atKey_put_same hD (reach_law_int.key hkey)]; simp
      · rw [Maps.atKey_put_other (fun h => e (by simpa using h)), hat]; simp [e], blk_put (cs := #[.bool st.found]) hf1 0 _ rfl⟩,
     ((Keeps.refl _ _).grown hg1 (fun k hk _ => by injection hk with hk; exact .inl hk.symm)).set _ _ _ (.inr rfl)⟩
  have HKEY := Aside0.mk key
  clear hJ hK hm hn hown hat hf hown1 hg1 hD hf1 key hml hnl hkey wfa wfb
  by_cases e : a = n
  · have e1 : decide (a = n) = true := decide_eq_true e
    rw [e1]
    subst e
    clear e1
    go_enter Try.func52, Try.ntmps52
    go_wp2_with fail
    go_ret
    exact ⟨rfl, (HKEY.out true).1, (HKEY.out true).2⟩
  · have e1 : decide (a = n) = false := decide_eq_false e
    rw [e1]
    have e2 : (a == n) = false := by simpa using e
    go_enter Try.func52, Try.ntmps52
    go_wp2_with fail
    go_ret
    exact ⟨rfl, (HKEY.out false).1, (HKEY.out false).2⟩
def slices_Reverse_int_int.l0 : Nat → List Int → Int → Int → Option (List Int)
  | 0, _, _, _ => none
  | k + 1, x0, x2, x3 => if x2 < x3 then (if 0 ≤ x3 then (if x3 < (x0.length : Int) then (if 0 ≤ x2 then (if x2 < (x0.length : Int) then (slices_Reverse_int_int.l0 k ((x0.set (x2 : Int).toNat (rd x0 x3)).set (x3 : Int).toNat (rd x0 x2)) (wrap64 (x2 + 1)) (wrap64 (x3 - 1))) else (none)) else (none)) else (none)) else (none)) else (some x0)
def slices_Reverse_int_int.f (k : Nat) (l0 : List Int) : Option (List Int) := slices_Reverse_int_int.l0 k l0 0 (wrap64 ((l0.length : Int) - 1))
def slices_Reverse_int_int.T3 : Bool × List (List Nat × List Nat) := (true, [([], []), ([], []), ([], []), ([], []), ([], []), ([], []), ([4, 5], [4, 5]), ([6], [6]), ([], []), ([], []), ([8, 9], [8, 9]), ([10], [10]), ([0, 1, 0, 1, 4, 5, 6, 7, 11], [0, 1]), ([12, 7, 0, 1, 4, 5, 6, 7, 11], [7, 12]), ([2, 3, 0, 1, 2, 3, 4, 5, 6, 7, 8, 9, 10, 11, 12, 13], [2, 3]), ([14, 11, 13, 0, 1, 2, 3, 4, 5, 6, 7, 8, 9, 10, 11, 12, 13], [11, 14])])
def slices_Reverse_int_int.B3 : List Nat := [0, 0, 0, 0, 0, 0, 48, 112, 0, 0, 768, 1792, 4083, 8179, 16383, 32767]
theorem slices_Reverse_int_int.tab3 : rtab .any (opsOf Try.f53 3) = slices_Reverse_int_int.T3 := by kernel_rfl
theorem slices_Reverse_int_int.bits3 : waitsOk slices_Reverse_int_int.T3.2 slices_Reverse_int_int.B3 = true := by kernel_rfl
set_option maxHeartbeats 8000000 in
set_option maxRecDepth 100000 in
theorem slices_Reverse_int_int.calls (k : Nat) (P0_ : Nat → Prop) (u9000_ : Value) (l0 : List Int) (r : List Int) (w0 w : World) (hB : Below w0.heap.size w0 w) (ho0 : Kd.R (Kd.int .i64) 3 w w0.heap.size P0_ u9000_ l0) (h : slices_Reverse_int_int.f k l0 = some r) :
    Calls Try.prog 53 #[u9000_] w fun e w' => e = .returned (.tuple #[]) ∧ Kd.R (Kd.int .i64) 3 w' w0.heap.size (fun k_ => (P0_ k_ ∨ w.heap.size ≤ k_)) u9000_ r ∧ Below w0.heap.size w0 w' ∧ Kept w w' (fun k_ => P0_ k_) := by
  have HO0 := Aside0.mk (show Kd.R (Kd.int .i64) 3 w w0.heap.size (fun k_ => (P0_ k_ ∨ w.heap.size ≤ k_)) u9000_ l0 from Kd.R_mono ho0 (fun k_ hk => (.inl hk)))
  have HK := Aside0.mk (Kept.refl w (fun k_ => P0_ k_))
  have HW0 := Aside0.mk hB.size
  have HB := Aside0.mk hB
  clear hB
  have H : (slices_Reverse_int_int.l0 k l0 0 (wrap64 ((l0.length : Int) - 1))) = some r := h
  clear h
  have H' := Aside0.mk H
  clear H
  obtain ⟨Ao2, co2, eo2⟩ := Kd.R_slice HO0.out
  subst eo2
  go_enter Try.func53, Try.ntmps53
  go_wp2
  (try (with_reducible (show Code.wp _ _ _ (Act.put _ _ _) _); go_simp))
  go_loopg [2, 3] k (fun kq v2 v3 w' => ∃ (x0_1 : List Int) (x2_1 : Int) (x3_1 : Int), v2 = .int .i64 x2_1 ∧ v3 = .int .i64 x3_1 ∧ Aside0 (slices_Reverse_int_int.l0 kq x0_1 x2_1 x3_1 = some r) ∧ Aside0 (kq ≤ k) ∧ Aside0 (Kd.R (Kd.int .i64) 3 w' w0.heap.size (fun k_ => (P0_ k_ ∨ w.heap.size ≤ k_)) (.slice Ao2 l0.length co2) x0_1) ∧ Aside0 (Kept w w' (fun k_ => P0_ k_)) ∧ Aside0 (Below w0.heap.size w0 w'))
  case atStart => exact ⟨(l0), (0), (wrap64 ((l0.length : Int) - 1)), (by first | rfl | (simp; done) | (simp [*]; done)), (by first | rfl | (simp; done) | (simp [*]; done)), H', ⟨Nat.le_refl _⟩, ⟨by (with_reducible repeat (first | apply Kd.R_alloc | apply Kd.R_drewN | apply Kd.R_drew)); exact HO0.out⟩, ⟨by repeat (first | (with_reducible first | exact HK.out | apply Kept.alloc | apply Kept.drewN | apply Kept.drew) | exact HK.out)⟩, ⟨by repeat (first | (with_reducible first | exact HB.out | apply below_alloc | apply pw_below_drewN | apply below_drew1) | exact HB.out)⟩⟩
  case round =>
    clear H'
    try clear p2
    obtain ⟨x0_1, x2_1, x3_1, rfl, rfl, HA, HK1, HO_0, HK, HB⟩ := hrel
    have hl0_1 := (Kd.R_reads' HO_0.out).1
    rw [hl0_1] at HO_0
    (try simp only [hl0_1])
    cases gk with
    | zero => exact absurd HA.out (by simp [slices_Reverse_int_int.l0])
    | succ k1 =>
      have H := HA.out
      clear HA
      simp only [slices_Reverse_int_int.l0] at H
      by_cases c3 : x2_1 < x3_1
      · rw [if_pos c3] at H
        have c3b0 : decide (x2_1 < x3_1) = true := decide_eq_true c3
        clear c3
        by_cases c4 : 0 ≤ x3_1
        · rw [if_pos c4] at H
          have c4b0 : decide (0 ≤ x3_1) = true := decide_eq_true c4
          clear c4
          by_cases c5 : x3_1 < (x0_1.length : Int)
          · rw [if_pos c5] at H
            have c5b0 : decide (x3_1 < (x0_1.length : Int)) = true := decide_eq_true c5
            (try (have c5b0z := c5b0; simp only [hl0_1] at c5b0z))
            clear c5
            by_cases c6 : 0 ≤ x2_1
            · rw [if_pos c6] at H
              have c6b0 : decide (0 ≤ x2_1) = true := decide_eq_true c6
              clear c6
              by_cases c7 : x2_1 < (x0_1.length : Int)
              · rw [if_pos c7] at H
                have c7b0 : decide (x2_1 < (x0_1.length : Int)) = true := decide_eq_true c7
                (try (have c7b0z := c7b0; simp only [hl0_1] at c7b0z))
                clear c7
                obtain ⟨y153, hy153⟩ : ∃ y_ : List Int, y_ = (x0_1.set (x2_1 : Int).toNat (rd x0_1 x3_1)) := ⟨_, rfl⟩
                replace H : (slices_Reverse_int_int.l0 k1 (y153.set (x3_1 : Int).toNat (rd x0_1 x2_1)) (wrap64 (x2_1 + 1)) (wrap64 (x3_1 - 1))) = some r := by first | (rw [hy153]; with_reducible exact H) | (have H2_ := (Option.bind_some _ _).symm.trans H; rw [hy153]; with_reducible exact H2_) | (have H2_ := (Option.bind_some _ _).symm.trans H; with_reducible exact H2_) | with_reducible exact H | (rw [hy153]; exact H) | exact H
                have Ny153 := Aside0.mk hy153
                clear hy153
                obtain ⟨y154, hy154⟩ : ∃ y_ : List Int, y_ = (y153.set (x3_1 : Int).toNat (rd x0_1 x2_1)) := ⟨_, rfl⟩
                replace H : (slices_Reverse_int_int.l0 k1 y154 (wrap64 (x2_1 + 1)) (wrap64 (x3_1 - 1))) = some r := by first | (rw [hy154]; with_reducible exact H) | (have H2_ := (Option.bind_some _ _).symm.trans H; rw [hy154]; with_reducible exact H2_) | (have H2_ := (Option.bind_some _ _).symm.trans H; with_reducible exact H2_) | with_reducible exact H | (rw [hy154]; exact H) | exact H
                have Ny154 := Aside0.mk hy154
                clear hy154
                have H' := Aside0.mk H
                clear H
                try go_wp2
                have n0_ := Aside0.mk (Kd.R_drew HO_0.out)
                have n1_ := Aside0.mk (Kept.drew HK.out)
                have n2_ := Aside0.mk (below_drew1 HB.out)
                clear HO_0
                clear HK
                clear HB
                have HO_0 := n0_
                have HK := n1_
                have HB := n2_
                clear n0_ n1_ n2_
                have p151 : 0 ≤ (x3_1 : Int) := of_decide_eq_true (by first | (with_reducible assumption) | assumption)
                have q151 : x3_1 < (x0_1.length : Int) := of_decide_eq_true (by first | (with_reducible assumption) | assumption)
                obtain ⟨ad151, e151, hx151_0⟩ := Kd.at_int (Kd.R_reads' HO_0.out).2.2 x3_1 p151 q151
                cases e151
                replace p151 := eq_true p151
                replace q151 := eq_true q151
                have p152 : 0 ≤ (x2_1 : Int) := of_decide_eq_true (by first | (with_reducible assumption) | assumption)
                have q152 : x2_1 < (x0_1.length : Int) := of_decide_eq_true (by first | (with_reducible assumption) | assumption)
                obtain ⟨ad152, e152, hx152_0⟩ := Kd.at_int (Kd.R_reads' HO_0.out).2.2 x2_1 p152 q152
                obtain rfl : ad151 = ad152 := (by injection e152)
                replace p152 := eq_true p152
                replace q152 := eq_true q152
                have p8 : 0 ≤ (x2_1 : Int) := of_decide_eq_true (by first | (with_reducible assumption) | assumption)
                have q8 : (x2_1 : Int) < ((x0_1.length : Int) : Int) := of_decide_eq_true (by first | (with_reducible assumption) | assumption)
                obtain ⟨go8, co8, eo8, gb8, gl8, cl8, HG8⟩ := Kd.R_form HO_0.out (by omega)
                (first | cases eo8 | (injection eo8 with ea_ en_ ec_; (first | subst ea_ | (injection ea_ with ea_; subst ea_)); subst ec_; clear en_))
                have GB8 := Aside0.mk gb8
                have GG8 := Aside0.mk HG8
                clear gb8 gl8 HG8
                have HMgo8 := Aside0.mk (show (P0_ go8 ∨ w.heap.size ≤ go8) from (HO_0.out.1 _ rfl))
                (first | simp only [add_plain] at hx151_0 | skip)
                (first | simp only [add_plain] at hx152_0 | skip)
                obtain ⟨hx8_0, hf8_0⟩ := Kd.R_celln 0 HO_0.out (x2_1 : Int) p8 q8
                replace p8 := eq_true p8
                replace q8 := eq_true q8
                have HP11 := Kd.R_putn HO_0.out (x2_1 : Int) (rd x0_1 x3_1)
                rw [← Ny153.out] at HP11
                have HQ11 := Aside0.mk HP11
                clear HP11
                have p9 : 0 ≤ (x3_1 : Int) := of_decide_eq_true (by first | (with_reducible assumption) | assumption)
                have q9 : (x3_1 : Int) < ((x0_1.length : Int) : Int) := of_decide_eq_true (by first | (with_reducible assumption) | assumption)
                obtain ⟨hx9_0, hf9_0⟩ := Kd.R_celln 0 HQ11.out (x3_1 : Int) p9 q9
                replace p9 := eq_true p9
                replace q9 := eq_true q9
                have HP12 := Kd.R_putn HQ11.out (x3_1 : Int) (rd x0_1 x2_1)
                rw [← Ny154.out] at HP12
                have HQ12 := Aside0.mk HP12
                clear HP12
                refine start_ (n := 16) (S := fun w' => w'.cell? ⟨go8, (x3_1).toNat, none⟩ = some (.int .i64 (rd x0_1 x3_1)) ∧ w'.cell? ⟨go8, (x2_1).toNat, none⟩ = some (.int .i64 (rd x0_1 x2_1))) (ds := [13, 15]) #[false, false, false, false, false, false, false, false, false, false, false, false, false, false, false, false] (by kernel_rfl) rfl rfl ⟨hx151_0, hx152_0⟩ (fun hHeld => ?_); refine with_tabW slices_Reverse_int_int.tab3 slices_Reverse_int_int.bits3 (fun HT_ HW_ => ?_)
                generalize wr.drew = w10 at HO_0 HK HB GG8 HQ11 HQ12 hf8_0 hf9_0 hx151_0 hx152_0 hx8_0 hx9_0 hHeld ⊢
                refine pure_ (i := 0) (N := some 14) (v := ?_) (a' := ?_) #[true, false, false, false, false, false, false, false, false, false, false, false, false, false, false, false] rfl rfl (any_of HT_.out (by kernel_rfl)) (fun _ _ _ h => h) (Or.inl ⟨by rfl, ?_⟩) ?_ ?_
                rotate_left
                · intro w'
                  go_simp
                  with_reducible rfl
                rotate_left
                · simp only [Act.put, List.setIfInBounds_toArray, List.set_cons_zero, List.set_cons_succ, i64_w, i32_w]
                  rfl
                refine pure_ (i := 1) (N := some 15) (v := ?_) (a' := ?_) #[true, true, false, false, false, false, false, false, false, false, false, false, false, false, false, false] rfl rfl (any_of HT_.out (by kernel_rfl)) (fun _ _ _ h => h) (Or.inl ⟨by rfl, ?_⟩) ?_ ?_
                rotate_left
                · intro w'
                  go_simp
                  with_reducible rfl
                rotate_left
                · simp only [Act.put, List.setIfInBounds_toArray, List.set_cons_zero, List.set_cons_succ, i64_w, i32_w]
                  rfl
                refine pure_ (i := 2) (N := some 16) (v := ?_) (a' := ?_) #[true, true, true, false, false, false, false, false, false, false, false, false, false, false, false, false] rfl rfl (any_of HT_.out (by kernel_rfl)) (fun _ _ _ h => h) (Or.inl ⟨by rfl, ?_⟩) ?_ ?_
                rotate_left
                · intro w'
                  go_simp
                  with_reducible rfl
                rotate_left
                · simp only [Act.put, List.setIfInBounds_toArray, List.set_cons_zero, List.set_cons_succ, i64_w, i32_w]
                  rfl
                refine pure_ (i := 3) (N := some 17) (v := ?_) (a' := ?_) #[true, true, true, true, false, false, false, false, false, false, false, false, false, false, false, false] rfl rfl (any_of HT_.out (by kernel_rfl)) (fun _ _ _ h => h) (Or.inl ⟨by rfl, ?_⟩) ?_ ?_
                rotate_left
                · intro w'
                  go_simp
                  with_reducible rfl
                rotate_left
                · simp only [Act.put, List.setIfInBounds_toArray, List.set_cons_zero, List.set_cons_succ, i64_w, i32_w]
                  rfl
                refine pure_ (i := 4) (N := some 18) (v := ?_) (a' := ?_) #[true, true, true, true, true, false, false, false, false, false, false, false, false, false, false, false] rfl rfl (any_of HT_.out (by kernel_rfl)) (fun _ _ _ h => h) (Or.inl ⟨by rfl, ?_⟩) ?_ ?_
                rotate_left
                · intro w'
                  go_simp
                  with_reducible rfl
                rotate_left
                · simp only [Act.put, List.setIfInBounds_toArray, List.set_cons_zero, List.set_cons_succ, i64_w, i32_w]
                  rfl
                refine pure_ (i := 5) (N := some 19) (v := ?_) (a' := ?_) #[true, true, true, true, true, true, false, false, false, false, false, false, false, false, false, false] rfl rfl (any_of HT_.out (by kernel_rfl)) (fun _ _ _ h => h) (Or.inl ⟨by rfl, ?_⟩) ?_ ?_
                rotate_left
                · intro w'
                  go_simp
                  with_reducible rfl
                rotate_left
                · simp only [Act.put, List.setIfInBounds_toArray, List.set_cons_zero, List.set_cons_succ, i64_w, i32_w]
                  rfl
                refine pure_ (i := 6) (N := some 20) (v := ?_) (a' := ?_) #[true, true, true, true, true, true, true, false, false, false, false, false, false, false, false, false] rfl rfl (any_of HT_.out (by kernel_rfl)) (fun _ _ _ h => h) (Or.inl ⟨by rfl, ?_⟩) ?_ ?_
                rotate_left
                · intro w'
                  go_simp
                  with_reducible rfl
                rotate_left
                · simp only [Act.put, List.setIfInBounds_toArray, List.set_cons_zero, List.set_cons_succ, i64_w, i32_w]
                  rfl
                refine pure_ (i := 8) (N := some 22) (v := ?_) (a' := ?_) #[true, true, true, true, true, true, true, false, true, false, false, false, false, false, false, false] rfl rfl (any_of HT_.out (by kernel_rfl)) (fun _ _ _ h => h) (Or.inl ⟨by rfl, ?_⟩) ?_ ?_
                rotate_left
                · intro w'
                  go_simp
                  with_reducible rfl
                rotate_left
                · simp only [Act.put, List.setIfInBounds_toArray, List.set_cons_zero, List.set_cons_succ, i64_w, i32_w]
                  rfl
                refine pure_ (i := 9) (N := some 23) (v := ?_) (a' := ?_) #[true, true, true, true, true, true, true, false, true, true, false, false, false, false, false, false] rfl rfl (any_of HT_.out (by kernel_rfl)) (fun _ _ _ h => h) (Or.inl ⟨by rfl, ?_⟩) ?_ ?_
                rotate_left
                · intro w'
                  go_simp
                  with_reducible rfl
                rotate_left
                · simp only [Act.put, List.setIfInBounds_toArray, List.set_cons_zero, List.set_cons_succ, i64_w, i32_w]
                  rfl
                refine pure_ (i := 10) (N := some 24) (v := ?_) (a' := ?_) #[true, true, true, true, true, true, true, false, true, true, true, false, false, false, false, false] rfl rfl (any_of HT_.out (by kernel_rfl)) (fun _ _ _ h => h) (Or.inl ⟨by rfl, ?_⟩) ?_ ?_
                rotate_left
                · intro w'
                  go_simp
                  with_reducible rfl
                rotate_left
                · simp only [Act.put, List.setIfInBounds_toArray, List.set_cons_zero, List.set_cons_succ, i64_w, i32_w]
                  rfl
                refine take_ (i := 7) (N := some 21) (v := ?_) (a' := ?_) #[true, true, true, true, true, true, true, true, true, true, true, false, false, false, false, false] rfl rfl (take_ofW HT_.out HW_.out (by kernel_rfl)) (fun _ _ _ h => h) (Or.inl ⟨by rfl, ?_⟩) hHeld ?_ ?_
                rotate_left
                · rintro w' ⟨s0, s1⟩
                  go_simp
                  with_reducible rfl
                rotate_left
                · simp only [Act.put, List.setIfInBounds_toArray, List.set_cons_zero, List.set_cons_succ, i64_w, i32_w]
                  rfl
                refine take_ (i := 11) (N := some 25) (v := ?_) (a' := ?_) #[true, true, true, true, true, true, true, true, true, true, true, true, false, false, false, false] rfl rfl (take_ofW HT_.out HW_.out (by kernel_rfl)) (fun _ _ _ h => h) (Or.inl ⟨by rfl, ?_⟩) hHeld ?_ ?_
                rotate_left
                · rintro w' ⟨s0, s1⟩
                  go_simp
                  with_reducible rfl
                rotate_left
                · simp only [Act.put, List.setIfInBounds_toArray, List.set_cons_zero, List.set_cons_succ, i64_w, i32_w]
                  rfl
                refine pure_ (i := 12) (N := some 26) (v := ?_) (a' := ?_) #[true, true, true, true, true, true, true, true, true, true, true, true, true, false, false, false] rfl rfl (any_of HT_.out (by kernel_rfl)) (fun _ _ _ h => h) (Or.inl ⟨by rfl, ?_⟩) ?_ ?_
                rotate_left
                · intro w'
                  go_simp
                  with_reducible rfl
                rotate_left
                · simp only [Act.put, List.setIfInBounds_toArray, List.set_cons_zero, List.set_cons_succ, i64_w, i32_w]
                  rfl
                refine last_ (i := 13) (N := none) #[true, true, true, true, true, true, true, true, true, true, true, true, true, true, false, false] rfl rfl (one_of HT_.out (by kernel_rfl)) (by decide) (fun K hK => ?_)
                refine skip_ (w1 := ?_) (by rfl) rfl ?_ ?_
                rotate_left
                · go_simp
                  rfl
                refine hK.out _ _ ?_
                clear hK K
                refine pure_ (i := 14) (N := some 27) (v := ?_) (a' := ?_) #[true, true, true, true, true, true, true, true, true, true, true, true, true, true, true, false] rfl rfl (any_of HT_.out (by kernel_rfl)) (fun _ _ _ h => h) (Or.inl ⟨by rfl, ?_⟩) ?_ ?_
                rotate_left
                · intro w'
                  go_simp
                  with_reducible rfl
                rotate_left
                · simp only [Act.put, List.setIfInBounds_toArray, List.set_cons_zero, List.set_cons_succ, i64_w, i32_w]
                  rfl
                refine last_ (i := 15) (N := none) #[true, true, true, true, true, true, true, true, true, true, true, true, true, true, true, true] rfl rfl (one_of HT_.out (by kernel_rfl)) (by decide) (fun K hK => ?_)
                refine skip_ (w1 := ?_) (by rfl) rfl ?_ ?_
                rotate_left
                · go_simp
                  rfl
                refine hK.out _ _ ?_
                clear hK K
                refine done_ (done_of HT_.out (by kernel_rfl)) ?_
                try go_wp2
                (try simp only [← hl0_1])
                go_roundg k1
                case measure => have := HK1.out; omega
                case rel => exact ⟨(y154), (wrap64 (x2_1 + 1)), (wrap64 (x3_1 - 1)), (by first | rfl | (simp; done) | (simp [*]; done)), (by first | rfl | (simp; done) | (simp [*]; done)), H', ⟨by have := HK1.out; omega⟩, ⟨by (try simp only [hl0_1]); (with_reducible repeat (first | apply Kd.R_alloc | apply Kd.R_drewN | apply Kd.R_drew)); exact HQ12.out⟩, ⟨by repeat (first | (with_reducible first | exact HK.out | apply Kept.alloc | apply Kept.drewN | apply Kept.drew | refine Kept.setCell ?_ HMgo8.out _ | refine Kept.setCell ?_ HMgo8.out _) | exact HK.out)⟩, ⟨by repeat (first | (with_reducible first | exact HB.out | apply below_alloc | apply pw_below_drewN | apply below_drew1 | refine below_set ?_ GB8.out | refine below_set ?_ GB8.out) | exact HB.out)⟩⟩
              · rw [if_neg c7] at H
                exact absurd H (by simp)
            · rw [if_neg c6] at H
              exact absurd H (by simp)
          · rw [if_neg c5] at H
            exact absurd H (by simp)
        · rw [if_neg c4] at H
          exact absurd H (by simp)
      · rw [if_neg c3] at H
        have c3b0 : decide (x2_1 < x3_1) = false := decide_eq_false c3
        clear c3
        obtain rfl := Option.some.inj H
        go_wp2
        first | go_end0 | ((try simp only [Exit.inBlock, Exit.then]); refine bodyPost_ret (results_none rfl _ _ _) rfl ?_)
        exact ⟨by first | rfl | (simp [errW_none, errW_some] <;> rfl) | (simp [*, errW_none, errW_some] <;> rfl), (by first | exact (by (with_reducible repeat (first | apply Kd.R_alloc | apply Kd.R_drewN | apply Kd.R_drew)); exact HO_0.out) | (simp only [hl0_1]; exact (by (with_reducible repeat (first | apply Kd.R_alloc | apply Kd.R_drewN | apply Kd.R_drew)); exact HO_0.out))), by repeat (first | (with_reducible first | exact HB.out | apply below_alloc | apply pw_below_drewN | apply below_drew1) | exact HB.out), by repeat (first | (with_reducible first | exact HK.out | apply Kept.alloc | apply Kept.drewN | apply Kept.drew) | exact HK.out)⟩
end Go.Proofs.Ytmpdilifoblnaaa.MReachWays
end
section
namespace Go.Proofs.Ytmpdilifoblnaaa.MReachWays
open Go.RowKit Go.Proofs.YtmpdilifoblnaaaW.PrintWords Go.Proofs.YtmpdilifoblnaaaW.PrintLast Go.Proofs.YtmpdilifoblnaaaW.PrintMore Go.Proofs.Ytmpdilifoblnaaa.Fun Go.Proofs.Ytmpdilifoblnaaa.Mem
attribute [local go_sem] max2_int min2_int max_two min_two max_three min_three max_four min_four
set_option linter.unusedVariables false
set_option linter.unusedSimpArgs false
def wayBack (f : Int → Int) : Nat → Int → List Int → Option (List Int)
  | 0, _, _ => none
  | k + 1, m, acc => if m ≥ 0 then (if acc.length < 1000000 then wayBack f k (f m) (acc ++ [m]) else none) else some acc
def wayG (l : List (List Int)) (K : Nat) (n : Int) : Option (List Int) :=
  (walkL l (wayTell n) K (walkPut (l.getD n.toNat []) (-1) (List.replicate l.length false, [])).1 (walkPut (l.getD n.toNat []) (-1) (List.replicate l.length false, [])).2 ⟨fun _ => 0, 0, false⟩).bind fun st =>
    if st.found = true then (wayBack st.f K (st.f n) [n]).bind fun acc => if acc.length ≤ 1000000 then slices_Reverse_int_int.f (acc.length + 5) (acc ++ [n]) else none else some []
def reach_Way.f (a0 a1 : Int) (l2 : List Int) (l3 : List S51) (n : Int) : Option (List Int) :=
  if thereB a0 a1 l2 l3 [n] = true then (empty_Nothing.f a0 a1 l2 l3).bind fun p => if p.1.length = l2.length then wayG (begG p.1 l2 l3) (l2.length + 2) n else none else some []
set_option maxRecDepth 100000 in
theorem WayJ.look {gb gf : Nat} {W : World} {st : WaySt} (h : WayJ gb gf W st) (m : Int) (hm : (Lit.int IntKind.i64 m).wf = true) :
    (Instr.lookup 71 (.map (some gb)) (.int .i64 m) false).run Try.prog W = .ok (.int .i64 (st.f m)) W ∧ (Lit.int IntKind.i64 (st.f m)).wf = true := by
  obtain ⟨D, hown, hat, _⟩ := h.out
  obtain ⟨c, hrun, hat', hwc⟩ := hown.lookup_int (t := 71) reach_law_int Try.underlying71 Try.underlying3 (by kernel_rfl) (Maps.keyOf_int_mk (P := Try.prog) (k := 3) Try.underlying3 hm)
  rw [hat] at hat'
  have e : st.f m = c := by injection hat' with e; injection e
  rw [e]
  exact ⟨hrun, hwc⟩
theorem row_one {w : World} {g : Nat} (a : Int) (h : w.heap[g]? = some (.cells #[.int .i64 a] 3 (0, 0))) : Kd.C (Kd.int .i64) w (some ⟨g, 0, none⟩) 1 [a] := by
  refine ⟨rfl, by decide, fun _ => ⟨_, rfl, fun j x hj => ⟨[.int .i64 x], rfl, rfl, fun k u hk => ?_⟩⟩⟩
  obtain ⟨rfl, rfl⟩ : k = 0 ∧ u = .int .i64 x := by
    cases k with
    | zero => exact ⟨rfl, by simpa using hk.symm⟩
    | succ k => simp at hk
  match j, hj with
  | 0, hj => obtain rfl := (show a = x by simpa using hj); exact (blk_cell h 0).trans rfl
  | j + 1, hj => simp at hj
set_option maxHeartbeats 8000000 in
set_option maxRecDepth 100000 in
theorem reach_Way.calls (toks look : Int) (A2 : Option Addr) (c2 : Nat) (o : List Int) (A3 : Option Addr) (c3 : Nat) (L : List S51) (n : Int) (r : List Int) (w : World)
    (r2 : Kd.C (Kd.int .i64) w A2 o.length o) (l2 : o.length ≤ c2) (r3 : Kd.C k51 w A3 L.length L) (l3 : L.length ≤ c3) (h : reach_Way.f toks look o L n = some r) :
    Calls Try.prog 24 #[.agg #[.int .i64 toks, .int .i64 look, .slice A2 o.length c2, .slice A3 L.length c3], .int .i64 n] w fun e w' => ∃ v0_ : Value, e = .returned v0_ ∧ Kd.R (Kd.int .i64) 3 w' w.heap.size (fun _ => True) v0_ r ∧ Below w.heap.size w w' := by
  obtain ⟨W1, hW1⟩ : ∃ W1, W1 = ((w.alloc (.cells #[.int .i64 toks, .int .i64 look, .slice A2 o.length c2, .slice A3 L.length c3] 25)).alloc (.cells #[.int .i64 n] 3)).alloc (.cells #[.int .i64 n] 3) := ⟨_, rfl⟩
  have hb1 : Below w.heap.size w W1 := by rw [hW1]; exact below_alloc (below_alloc (below_alloc (Below.refl _ _) _) _) _
  have hbx : W1.heap[w.heap.size]? = some (.cells #[.int .i64 toks, .int .i64 look, .slice A2 o.length c2, .slice A3 L.length c3] 25 (0, 0)) := by rw [hW1]; exact hp_old (hp_old (hp_new rfl))
  have hbn : W1.heap[w.heap.size + 1]? = some (.cells #[.int .i64 n] 3 (0, 0)) := by rw [hW1]; exact hp_old (hp_new (by simp))
  have hby : W1.heap[w.heap.size + 1 + 1]? = some (.cells #[.int .i64 n] 3 (0, 0)) := by rw [hW1]; exact hp_new (by simp)
  have HT := Aside0.mk (reach_there_calls toks look A2 c2 o A3 c3 L (some ⟨w.heap.size + 1 + 1, 0, none⟩) 1 [n] W1 (Kd.C_below r2 hb1) l2 (Kd.C_below r3 hb1) l3 (row_one n hby) (Nat.le_refl _))
  have HR2 := Aside0.mk r2
  have HR3 := Aside0.mk r3
  have HB1 := Aside0.mk hb1
  have x0 : W1.cell? ⟨w.heap.size, 0, none⟩ = some (.int .i64 toks) := (blk_cell hbx 0).trans rfl
  have x1 : W1.cell? ⟨w.heap.size, 1, none⟩ = some (.int .i64 look) := (blk_cell hbx 1).trans rfl
  have x2 : W1.cell? ⟨w.heap.size, 2, none⟩ = some (.slice A2 o.length c2) := (blk_cell hbx 2).trans rfl
  have x3 : W1.cell? ⟨w.heap.size, 3, none⟩ = some (.slice A3 L.length c3) := (blk_cell hbx 3).trans rfl
  have xn : W1.cell? ⟨w.heap.size + 1, 0, none⟩ = some (.int .i64 n) := (blk_cell hbn 0).trans rfl
  have HH := Aside0.mk (show ∀ q, thereB toks look o L [n] = q → (if q = true then (empty_Nothing.f toks look o L).bind fun p => if p.1.length = o.length then wayG (begG p.1 o L) (o.length + 2) n else none else some []) = some r from fun q hq => by rw [← hq]; exact h)
  have HIN := Aside0.mk (show thereB toks look o L [n] = true → _ from fun e => there_in e)
  clear r2 r3 hb1 hbx hby hbn h
  generalize thereB toks look o L [n] = q at HT HH HIN
  have HH2 := Aside0.mk (HH.out q rfl)
  clear HH
  go_enter Try.func24, Try.ntmps24
  go_wp2_with fail
  rw [← hW1]
  clear hW1
  refine HT.out.mono ?_
  rintro e w1 ⟨rfl, hb2⟩
  have HB2 := Aside0.mk (below_step HB1.out hb2)
  have y0 := pw_cell_below hb2 x0
  have y1 := pw_cell_below hb2 x1
  have y2 := pw_cell_below hb2 x2
  have y3 := pw_cell_below hb2 x3
  have yn := pw_cell_below hb2 xn
  clear x0 x1 x2 x3 xn hb2 HT
  cases q with
  | false =>
    have hh := HH2.out
    rw [if_neg (by decide)] at hh
    injection hh with hh
    subst hh
    go_wp2_with fail
    go_ret
    exact ⟨_, rfl, Kd.R_nil _ _ _ _ _, HB2.out⟩
  | true =>
    have hh := HH2.out
    rw [if_pos rfl] at hh
    obtain ⟨⟨mk, q2⟩, hN, h2⟩ := Option.bind_eq_some_iff.1 hh
    simp only at h2
    by_cases hml : mk.length = o.length
    · rw [if_pos hml] at h2
      obtain ⟨hmay, hin⟩ := HIN.out rfl
      have hn := hin n List.mem_cons_self
      have HBG := Aside0.mk (reach_begins_calls toks look A2 c2 o A3 c3 L mk q2 w1 (Kd.C_below HR2.out HB2.out) l2 (Kd.C_below HR3.out HB2.out) l3 hmay hN hml)
      have hO2 : o.length ≤ 500 := (bnf_may_ok hmay).2.1
      have HII := Aside0.mk (begG_ok hmay mk)
      have H2 := Aside0.mk h2
      have hn0 := hn.1
      have hn1 := hn.2
      clear hh HH2 h2 hN hml hmay hin hn HIN
      go_wp2_with fail
      refine HBG.out.mono ?_
      rintro e w2 ⟨g, rfl, hS, hb3⟩
      have hS : Steps w2 (fun k => w1.heap.size ≤ k) g (begG mk o L) := hS
      have HB3 := Aside0.mk (below_step HB2.out hb3)
      have yn2 := pw_cell_below hb3 yn
      have hll := HII.out.2
      have hkl : n.toNat < (begG mk o L).length := by omega
      have e : (begG mk o L).getD n.toNat [] = (begG mk o L)[n.toNat] := by rw [List.getD_eq_getElem?_getD, List.getElem?_eq_getElem hkl]; rfl
      have hin := HII.out.1 n.toNat
      have h2 := H2.out
      unfold wayG at h2
      rw [e] at hin h2
      obtain ⟨st, hst, h3⟩ := Option.bind_eq_some_iff.1 h2
      obtain ⟨Ar, cr, hcr, -, -, hQr, -⟩ := hS.row n.toNat hkl
      obtain ⟨W3, hW3⟩ : ∃ W3, W3 = ((w2.alloc (.map #[] 0)).alloc (.cells #[.map (some w2.heap.size)] 71)).alloc (.cells #[.bool false] 4) := ⟨_, rfl⟩
      have hb4 : Below w2.heap.size w2 W3 := by rw [hW3]; exact below_alloc (below_alloc (below_alloc (Below.refl _ _) _) _) _
      have hm3 : W3.heap[w2.heap.size + 1]? = some (.cells #[.map (some w2.heap.size)] 71 (0, 0)) := by rw [hW3]; exact hp_old (hp_new (by simp))
      have hf3 : W3.heap[w2.heap.size + 1 + 1]? = some (.cells #[.bool false] 4 (0, 0)) := by rw [hW3]; exact hp_new (by simp)
      have hj3 : WayJ w2.heap.size (w2.heap.size + 1 + 1) W3 ⟨fun _ => 0, 0, false⟩ := ⟨.map [], by
        rw [hW3]; exact ((World.ownsMap_made w2 _ _ _).alloc _).alloc _, fun i => rfl, hf3⟩
      have hnl : w.heap.size + 1 < w2.heap.size := World.block_lt_of_cell? w2 _ yn2
      have HC0 := reach_walk_calls (oks := fun k => w1.heap.size ≤ k ∧ k < w2.heap.size) (X := fun k => k = w2.heap.size ∨ k = w2.heap.size + 1 + 1) (J := WayJ w2.heap.size (w2.heap.size + 1 + 1)) (tell := wayTell n) (lb := #[.pointer (some ⟨w2.heap.size + 1, 0, none⟩), .pointer (some ⟨w.heap.size + 1, 0, none⟩), .pointer (some ⟨w2.heap.size + 1 + 1, 0, none⟩)]) g o.length (begG mk o L) Ar cr (begG mk o L)[n.toNat] W3 ⟨fun _ => 0, 0, false⟩ st
        (reach_way1 n (w2.heap.size + 1) w2.heap.size (w.heap.size + 1) (w2.heap.size + 1 + 1) W3 (begG mk o L).length (by omega) ((blk_cell hm3 0).trans rfl) (pw_cell_below hb4 yn2) (by omega) (by omega) (by omega) (by omega) (by omega) (by have := blk_lt hf3; omega) (blk_lt hf3)) (fun args w => enters_ Try.func52 (by kernel_rfl) rfl args w)
        ((hS.wider fun k hk ho => ⟨ho, hk⟩).below hb4) (fun k hk e => by have := hk.2; omega) (hQr.below hb4) (fun k hk e => by have := hQr.lt k hk; omega) (by omega) (by rw [hll]; exact HII.out.1) (by rw [hll]; exact hin) hj3 (o.length + 2) (by show 0 + _ ≤ _; omega) hst
      rw [hll] at HC0
      have HC := Aside0.mk HC0
      have HB4 := Aside0.mk (below_step HB3.out hb4)
      have HW3 := Aside0.mk hW3
      have H3 := Aside0.mk h3
      have HYN := Aside0.mk (pw_cell_below hb4 yn2)
      clear HC0 h2 H2 hin e hS hQr hb3 HBG y0 y1 y2 y3 yn hst hb4 hm3 hf3 hj3 hW3 h3
      generalize (begG mk o L)[n.toNat] = row at hcr HC
      clear hkl hll HII
      have hmm := @run_makeMap Try.prog
      obtain ⟨gn, hgn⟩ : ∃ gn, gn = w.heap.size + 1 := ⟨_, rfl⟩
      rw [← hgn] at HC HYN yn2 hnl
      rw [← hgn]
      clear hgn
      have hnl1 : gn < w2.heap.size + 1 := by omega
      have hnl2 : gn < w2.heap.size + 1 + 1 := by omega
      have hgl := World.block_lt_of_cell? w2 _ hcr
      have hgl1 : g < w2.heap.size + 1 := by have : g < w2.heap.size := hgl; omega
      have hgl2 : g < w2.heap.size + 1 + 1 := by omega
      go_wp2_with fail
      rw [← HW3.out]
      refine HC.out.mono ?_
      rintro e w4 ⟨rfl, hJ, hK⟩
      have hzz : ∀ W, (zeroValue 3).run Try.prog W = .ok (.int .i64 0) W := fun W => by kernel_rfl
      have hn4 : w4.cell? ⟨gn, 0, none⟩ = some (.int .i64 n) := (World.cell?_of_block (w := W3) (a := ⟨gn, 0, none⟩) (hK.block gn (World.block_lt_of_cell? W3 _ HYN.out) (show ¬ (gn = w2.heap.size ∨ gn = w2.heap.size + 1 + 1) by omega))).trans HYN.out
      have hm4 : w4.cell? ⟨w2.heap.size + 1, 0, none⟩ = some (.map (some w2.heap.size)) := (World.cell?_of_block (w := W3) (a := ⟨w2.heap.size + 1, 0, none⟩) (hK.block _ (by rw [HW3.out]; simp) (show ¬ (w2.heap.size + 1 = w2.heap.size ∨ w2.heap.size + 1 = w2.heap.size + 1 + 1) by omega))).trans (by rw [HW3.out]; exact (blk_cell (hp_old (hp_new (by simp))) 0).trans rfl)
      have HB5 := Aside0.mk (HB4.out.trans (hK.to_below (B := w.heap.size) HB4.out.size (by
        have := HB3.out.size
        rintro k hk (h | h) <;> omega)))
      have HJ := Aside0.mk hJ
      have hf4 : w4.cell? ⟨w2.heap.size + 1 + 1, 0, none⟩ = some (.bool st.found) := by
        obtain ⟨D, _, _, h⟩ := hJ.out
        exact (blk_cell h 0).trans rfl
      have hg4 : w2.heap.size + 1 + 1 < w4.heap.size := World.block_lt_of_cell? w4 _ hf4
      have h3 := H3.out
      clear H3 HC HYN HW3 hK hJ yn2 hcr hnl1 hnl2 hgl hgl1 hgl2 hmm hnl
      generalize w2.heap.size = gb at hm4 hf4 HJ hg4
      by_cases hfd : st.found = true
      · rw [if_pos hfd] at h3
        obtain ⟨acc, hwb, h4⟩ := Option.bind_eq_some_iff.1 h3
        rw [hfd] at hf4
        have HWB := Aside0.mk hwb
        have H4 := Aside0.mk h4
        clear h3 hwb h4 hfd
        obtain ⟨W5, hW5⟩ : ∃ W5, W5 = w4.alloc (.cells #[.int .i64 n] 3) := ⟨_, rfl⟩
        have hb5 : Below w4.heap.size w4 W5 := by rw [hW5]; exact below_alloc (Below.refl _ _) _
        have HJ5 := Aside0.mk (HJ.out.move (W1 := W5) (hb5.block _ (by omega)) (hb5.block _ (by omega)))
        have HRow := Aside0.mk (show Kd.R (Kd.int .i64) 3 W5 w4.heap.size (fun _ => True) (.slice (some ⟨w4.heap.size, 0, none⟩) 1 1) [n] by
          rw [hW5]
          exact Kd.R_of_own (World.ownsRow_lit (base := w4.heap.size) (e := 3) (size := 1) w4 #[.int .i64 n] 1 (Nat.le_refl _) (by decide) rfl) (fun _ _ => trivial))
        obtain ⟨hlk, hwf⟩ := HJ5.out.look n (WalkArith.wf_i64 ⟨by omega, by omega⟩)
        have HWF := Aside0.mk hwf
        have hb5' := Aside0.mk hb5
        rw [hW5] at hlk
        have hgl4 := World.block_lt_of_cell? w4 _ hn4
        have hgm4 := World.block_lt_of_cell? w4 _ hm4
        clear hwf hb5
        go_wp2_with fail
        rw [← hW5]
        have HW5 := Aside0.mk hW5
        clear hW5 hlk
        go_loopg [8, 9] (o.length + 2) (fun kq v8 v9 wr => ∃ (m : Int) (acc2 : List Int), v9 = .int .i64 m ∧ Aside0 (wayBack st.f kq m acc2 = some acc) ∧ Aside0 ((Lit.int IntKind.i64 m).wf = true) ∧ Aside0 (Kd.R (Kd.int .i64) 3 wr w4.heap.size (fun _ => True) v8 acc2) ∧ Aside0 (Below w4.heap.size w4 wr))
        case atStart => exact ⟨_, _, rfl, HWB, HWF, HRow, hb5'⟩
        case round =>
          clear HWB HWF HRow hb5'
          obtain ⟨m, acc2, rfl, HWB, HWF, HR, HB⟩ := hrel
          cases gk with
          | zero => exact absurd HWB.out (by simp [wayBack])
          | succ k1 =>
            have hwb := HWB.out
            rw [wayBack] at hwb
            have cn := pw_cell_below HB.out hn4
            have cm := pw_cell_below HB.out hm4
            by_cases hm0 : m ≥ 0
            · rw [if_pos hm0] at hwb
              by_cases hac : acc2.length < 1000000
              · rw [if_pos hac] at hwb
                have HWB2 := Aside0.mk hwb
                have d0 : decide (m ≥ 0) = true := decide_eq_true hm0
                have d1 : decide (0 ≤ m) = true := decide_eq_true hm0
                clear hwb HWB
                go_wp2_with (first | ((with_reducible refine gate_builtin (b := .append) (xs := #[.tmp 37, .tmp 39]) rfl ?_); (try (refine gate_guard (by rfl) ?_; dsimp only)); at_builtin; refine Kd.R_append (Kd.int .i64) (w0 := w4) w4.heap.size rfl (.tmp 37) (.tmp 39) 22 3 (.int .i64 0) 8 rfl Try.underlying22 reach_infoI rfl (by decide) (by omega) u8 acc2 m [.int .i64 m] (fun _ => True) (fun _ => False) rfl rfl ?aP (fun _ hk => hk.elim) ?aF ?aO ?aB ?aS ?aL ?_; (case aP => exact rfl); (case aB => exact HB.out); (case aF => exact (fun _ _ => trivial)); (case aO => exact HR.out); (case aS => exact HB.out.size); (case aL => omega); intro v9 w9 ho hb _ _; have HR9 := Aside0.mk ho; have HB9 := Aside0.mk hb; have cm9 := pw_cell_below hb hm4; obtain ⟨hlk, hwf⟩ := (HJ.out.move (W1 := w9) (hb.block _ (by omega)) (hb.block _ (by omega))).look m HWF.out; have HWF9 := Aside0.mk hwf; clear ho hb hwf))
                go_roundg k1
                case measure => omega
                case rel => exact ⟨_, _, rfl, HWB2, HWF9, HR9, HB9⟩
              · rw [if_neg hac] at hwb
                exact absurd hwb (by simp)
            · rw [if_neg hm0] at hwb
              injection hwb with hwb
              subst hwb
              have d0 : decide (m ≥ 0) = false := decide_eq_false hm0
              have d1 : decide (0 ≤ m) = false := decide_eq_false hm0
              have h4 := H4.out
              by_cases hac : acc2.length ≤ 1000000
              · rw [if_pos hac] at h4
                replace H4 := Aside0.mk h4
                clear h4
                go_wp2_with (first | ((with_reducible refine gate_builtin (b := .append) (xs := #[.tmp 41, .tmp 43]) rfl ?_); (try (refine gate_guard (by rfl) ?_; dsimp only)); at_builtin; refine Kd.R_append (Kd.int .i64) (w0 := w4) w4.heap.size rfl (.tmp 41) (.tmp 43) 22 3 (.int .i64 0) 8 rfl Try.underlying22 reach_infoI rfl (by decide) (by omega) u8 acc2 n [.int .i64 n] (fun _ => True) (fun _ => False) rfl rfl ?aP (fun _ hk => hk.elim) ?aF ?aO ?aB ?aS ?aL ?_; (case aP => exact rfl); (case aB => exact HB.out); (case aF => exact (fun _ _ => trivial)); (case aO => exact HR.out); (case aS => exact HB.out.size); (case aL => omega); intro v9 w9 ho hb _ _; have HR9 := Aside0.mk ho; have HB9 := Aside0.mk hb; clear ho hb))
                refine (slices_Reverse_int_int.calls (acc2.length + 5) (fun _ => True) v9 (acc2 ++ [n]) r w4 w9 HB9.out HR9.out H4.out).mono ?_
                rintro e w10 ⟨rfl, hr10, hb10, _⟩
                have HR10 := Aside0.mk hr10
                have HB10 := Aside0.mk hb10
                clear hr10 hb10
                go_wp2_with fail
                go_ret
                exact ⟨_, rfl, Kd.R_mono (Kd.R_lower HR10.out HB5.out.size) (fun _ _ => trivial), below_step HB5.out HB10.out⟩
              · rw [if_neg hac] at h4
                exact absurd h4 (by simp)
      · have hfd2 : st.found = false := by simpa using hfd
        rw [if_neg hfd] at h3
        injection h3 with h3
        subst h3
        rw [hfd2] at hf4
        clear hfd hfd2
        go_wp2_with fail
        go_ret
        exact ⟨_, rfl, Kd.R_nil _ _ _ _ _, HB5.out⟩
    · rw [if_neg hml] at h2
      exact absurd h2 (by simp)
def gramaryebase_HasInt.l0 : Nat → List Int → Int → Int → Option (Bool)
  | 0, _, _, _ => none
  | k + 1, x0, x1, x5 => if x5 < (x0.length : Int) then (if 0 ≤ x5 then (if (rd x0 x5) = x1 then (some true) else (gramaryebase_HasInt.l0 k x0 x1 (wrap64 (x5 + 1)))) else (none)) else (some false)
def gramaryebase_HasInt.f (k : Nat) (l0 : List Int) (a1 : Int) : Option (Bool) := gramaryebase_HasInt.l0 k l0 a1 0
set_option maxHeartbeats 8000000 in
set_option maxRecDepth 100000 in
theorem gramaryebase_HasInt.calls (k : Nat) (A0 : Option Addr) (c0 : Nat) (l0 : List Int) (a1 : Int) (r : Bool) (w : World) (hr0 : Kd.C (Kd.int .i64) w A0 l0.length l0) (hc0 : l0.length ≤ c0) (h : gramaryebase_HasInt.f k l0 a1 = some r) :
    Calls Try.prog 54 #[.slice A0 l0.length c0, .int .i64 a1] w fun e w' => e = .returned (.bool r) ∧ Drawn0 w w' := by
  have HR0 := Aside0.mk hr0
  have HC0 := Aside0.mk hc0
  clear hr0 hc0
  have H : (gramaryebase_HasInt.l0 k l0 a1 0) = some r := h
  clear h
  have H' := Aside0.mk H
  clear H
  go_enter Try.func54, Try.ntmps54
  go_wp2
  (try (with_reducible (show Code.wp _ _ _ (Act.put _ _ _) _); go_simp))
  go_loopg [5] k (fun kq v5 w' => ∃ (x5_1 : Int), v5 = .int .i64 x5_1 ∧ Aside0 (gramaryebase_HasInt.l0 kq l0 a1 x5_1 = some r) ∧ Aside0 (kq ≤ k) ∧ Drawn0 w w')
  case atStart => exact ⟨(0), (by first | rfl | (simp; done) | (simp [*]; done)), H', ⟨Nat.le_refl _⟩, by repeat (first | exact Drawn0.refl _ | apply Drawn0.step)⟩
  case round =>
    clear H'
    try clear p2
    obtain ⟨x5_1, rfl, HA, HK1, ⟨m1, rfl⟩⟩ := hrel
    cases gk with
    | zero => exact absurd HA.out (by simp [gramaryebase_HasInt.l0])
    | succ k1 =>
      have H := HA.out
      clear HA
      simp only [gramaryebase_HasInt.l0] at H
      by_cases c3 : x5_1 < (l0.length : Int)
      · rw [if_pos c3] at H
        have c3b0 : decide (x5_1 < (l0.length : Int)) = true := decide_eq_true c3
        clear c3
        by_cases c4 : 0 ≤ x5_1
        · rw [if_pos c4] at H
          have c4b0 : decide (0 ≤ x5_1) = true := decide_eq_true c4
          clear c4
          by_cases c5 : (rd l0 x5_1) = a1
          · rw [if_pos c5] at H
            have c5b0 : ((rd l0 x5_1) == a1) = true := beq_iff_eq.mpr c5
            have c5b1 : ((rd l0 x5_1) != a1) = false := bne_eq_false_iff_eq.mpr c5
            clear c5
            obtain rfl := Option.some.inj H
            have p155 : 0 ≤ (x5_1 : Int) := of_decide_eq_true (by first | (with_reducible assumption) | assumption)
            have q155 : x5_1 < (l0.length : Int) := of_decide_eq_true (by first | (with_reducible assumption) | assumption)
            obtain ⟨ad155, e155, hx155_0⟩ := Kd.at_int HR0.out x5_1 p155 q155
            cases e155
            replace p155 := eq_true p155
            replace q155 := eq_true q155
            go_wp2
            go_ret
            exact ⟨by first | rfl | (simp; done) | (simp [*]; done), by repeat (first | exact Drawn0.refl _ | apply Drawn0.step)⟩
          · rw [if_neg c5] at H
            have c5b0 : ((rd l0 x5_1) == a1) = false := beq_eq_false_iff_ne.mpr c5
            have c5b1 : ((rd l0 x5_1) != a1) = true := bne_iff_ne.mpr c5
            have H' := Aside0.mk H
            clear H
            have p155 : 0 ≤ (x5_1 : Int) := of_decide_eq_true (by first | (with_reducible assumption) | assumption)
            have q155 : x5_1 < (l0.length : Int) := of_decide_eq_true (by first | (with_reducible assumption) | assumption)
            obtain ⟨ad155, e155, hx155_0⟩ := Kd.at_int HR0.out x5_1 p155 q155
            cases e155
            replace p155 := eq_true p155
            replace q155 := eq_true q155
            go_wp2
            go_roundg k1
            case measure => have := HK1.out; omega
            case rel => exact ⟨(wrap64 (x5_1 + 1)), (by first | rfl | (simp; done) | (simp [*]; done)), H', ⟨by have := HK1.out; omega⟩, by repeat (first | exact Drawn0.refl _ | apply Drawn0.step)⟩
        · rw [if_neg c4] at H
          exact absurd H (by simp)
      · rw [if_neg c3] at H
        have c3b0 : decide (x5_1 < (l0.length : Int)) = false := decide_eq_false c3
        clear c3
        obtain rfl := Option.some.inj H
        go_wp2
        go_ret
        exact ⟨by first | rfl | (simp; done) | (simp [*]; done), by repeat (first | exact Drawn0.refl _ | apply Drawn0.step)⟩
def gramaryeref10_row.l0 : Nat → List (S59) → Bool → List Bool → Int → Option (Bool)
  | 0, _, _, _, _ => none
  | k + 1, x0, x1, x2, x7 => if x7 < (x0.length : Int) then (if 0 ≤ x7 then (if (rd_T59 x0 x7).f0 = true then (if x1 = true then (if ((rd_T59 x0 x7).f0 = true) then (gramaryeref10_row.l0 k x0 x1 x2 (wrap64 (x7 + 1))) else (if 0 ≤ ((rd_T59 x0 x7).f1) then (if ((rd_T59 x0 x7).f1) < (x2.length : Int) then (if (rdOf false x2 ((rd_T59 x0 x7).f1) = true) then (gramaryeref10_row.l0 k x0 x1 x2 (wrap64 (x7 + 1))) else (some false)) else (none)) else (none))) else (some false)) else (if ((rd_T59 x0 x7).f0 = true) then (gramaryeref10_row.l0 k x0 x1 x2 (wrap64 (x7 + 1))) else (if 0 ≤ ((rd_T59 x0 x7).f1) then (if ((rd_T59 x0 x7).f1) < (x2.length : Int) then (if (rdOf false x2 ((rd_T59 x0 x7).f1) = true) then (gramaryeref10_row.l0 k x0 x1 x2 (wrap64 (x7 + 1))) else (some false)) else (none)) else (none)))) else (none)) else (some true)
def gramaryeref10_row.f (k : Nat) (l0 : List (S59)) (a1 : Bool) (l2 : List Bool) : Option (Bool) := gramaryeref10_row.l0 k l0 a1 l2 0
set_option maxHeartbeats 8000000 in
set_option maxRecDepth 100000 in
theorem gramaryeref10_row.calls (k : Nat) (A0 : Option Addr) (c0 : Nat) (l0 : List (S59)) (a1 : Bool) (A2 : Option Addr) (c2 : Nat) (l2 : List Bool) (r : Bool) (w : World) (hr0 : Kd.C k59 w A0 l0.length l0) (hc0 : l0.length ≤ c0) (hr2 : Kd.C Kd.bool w A2 l2.length l2) (hc2 : l2.length ≤ c2) (h : gramaryeref10_row.f k l0 a1 l2 = some r) :
    Calls Try.prog 47 #[.slice A0 l0.length c0, .bool a1, .slice A2 l2.length c2] w fun e w' => e = .returned (.bool r) ∧ Drawn0 w w' := by
  have HR0 := Aside0.mk hr0
  have HC0 := Aside0.mk hc0
  clear hr0 hc0
  have HR2 := Aside0.mk hr2
  have HC2 := Aside0.mk hc2
  clear hr2 hc2
  have H : (gramaryeref10_row.l0 k l0 a1 l2 0) = some r := h
  clear h
  have H' := Aside0.mk H
  clear H
  go_enter Try.func47, Try.ntmps47
  go_wp2
  (try (with_reducible (show Code.wp _ _ _ (Act.put _ _ _) _); go_simp))
  go_loopg [7] k (fun kq v7 w' => ∃ (x7_1 : Int), v7 = .int .i64 x7_1 ∧ Aside0 (gramaryeref10_row.l0 kq l0 a1 l2 x7_1 = some r) ∧ Aside0 (kq ≤ k) ∧ Drawn0 w w')
  case atStart => exact ⟨(0), (by first | rfl | (simp; done) | (simp [*]; done)), H', ⟨Nat.le_refl _⟩, by repeat (first | exact Drawn0.refl _ | apply Drawn0.step)⟩
  case round =>
    clear H'
    try clear c2
    try clear p2
    obtain ⟨x7_1, rfl, HA, HK1, ⟨m1, rfl⟩⟩ := hrel
    cases gk with
    | zero => exact absurd HA.out (by simp [gramaryeref10_row.l0])
    | succ k1 =>
      have H := HA.out
      clear HA
      simp only [gramaryeref10_row.l0] at H
      by_cases c4 : x7_1 < (l0.length : Int)
      · rw [if_pos c4] at H
        have c4b0 : decide (x7_1 < (l0.length : Int)) = true := decide_eq_true c4
        clear c4
        by_cases c5 : 0 ≤ x7_1
        · rw [if_pos c5] at H
          have c5b0 : decide (0 ≤ x7_1) = true := decide_eq_true c5
          clear c5
          obtain ⟨bq6, hbq6⟩ : ∃ b_ : Bool, b_ = ((rd_T59 l0 x7_1).f0) := ⟨_, rfl⟩
          replace H : (if bq6 = true then (if a1 = true then (if (bq6 = true) then (gramaryeref10_row.l0 k1 l0 a1 l2 (wrap64 (x7_1 + 1))) else (if 0 ≤ ((rd_T59 l0 x7_1).f1) then (if ((rd_T59 l0 x7_1).f1) < (l2.length : Int) then (if (rdOf false l2 ((rd_T59 l0 x7_1).f1) = true) then (gramaryeref10_row.l0 k1 l0 a1 l2 (wrap64 (x7_1 + 1))) else (some false)) else (none)) else (none))) else (some false)) else (if (bq6 = true) then (gramaryeref10_row.l0 k1 l0 a1 l2 (wrap64 (x7_1 + 1))) else (if 0 ≤ ((rd_T59 l0 x7_1).f1) then (if ((rd_T59 l0 x7_1).f1) < (l2.length : Int) then (if (rdOf false l2 ((rd_T59 l0 x7_1).f1) = true) then (gramaryeref10_row.l0 k1 l0 a1 l2 (wrap64 (x7_1 + 1))) else (some false)) else (none)) else (none)))) = some r := by rw [← hbq6] at H; exact H
          have Nbq6 := Aside0.mk hbq6
          clear hbq6
          by_cases c7 : bq6 = true
          · subst c7
            have H1 : (if a1 = true then (if (true = true) then (gramaryeref10_row.l0 k1 l0 a1 l2 (wrap64 (x7_1 + 1))) else (if 0 ≤ ((rd_T59 l0 x7_1).f1) then (if ((rd_T59 l0 x7_1).f1) < (l2.length : Int) then (if (rdOf false l2 ((rd_T59 l0 x7_1).f1) = true) then (gramaryeref10_row.l0 k1 l0 a1 l2 (wrap64 (x7_1 + 1))) else (some false)) else (none)) else (none))) else (some false)) = some r := by rw [if_pos rfl] at H; exact H
            clear H
            have H := H1
            clear H1
            by_cases c8 : a1 = true
            · subst c8
              have H1 : (if (true = true) then (gramaryeref10_row.l0 k1 l0 true l2 (wrap64 (x7_1 + 1))) else (if 0 ≤ ((rd_T59 l0 x7_1).f1) then (if ((rd_T59 l0 x7_1).f1) < (l2.length : Int) then (if (rdOf false l2 ((rd_T59 l0 x7_1).f1) = true) then (gramaryeref10_row.l0 k1 l0 true l2 (wrap64 (x7_1 + 1))) else (some false)) else (none)) else (none))) = some r := by rw [if_pos rfl] at H; exact H
              clear H
              have H := H1
              clear H1
              by_cases c9 : (true = true)
              · clear c9
                have H1 : (gramaryeref10_row.l0 k1 l0 true l2 (wrap64 (x7_1 + 1))) = some r := by rw [if_pos rfl] at H; exact H
                clear H
                have H := H1
                clear H1
                have H' := Aside0.mk H
                clear H
                have p156 : 0 ≤ (x7_1 : Int) := of_decide_eq_true (by first | (with_reducible assumption) | assumption)
                have q156 : x7_1 < (l0.length : Int) := of_decide_eq_true (by first | (with_reducible assumption) | assumption)
                obtain ⟨ad156, e156, hx156_0, hx156_1⟩ := at_T59 HR0.out x7_1 p156 q156
                (try rw [← Nbq6.out] at hx156_0)
                cases e156
                replace p156 := eq_true p156
                replace q156 := eq_true q156
                have p157 : 0 ≤ (x7_1 : Int) := of_decide_eq_true (by first | (with_reducible assumption) | assumption)
                have q157 : x7_1 < (l0.length : Int) := of_decide_eq_true (by first | (with_reducible assumption) | assumption)
                obtain ⟨ad157, e157, hx157_0, hx157_1⟩ := at_T59 HR0.out x7_1 p157 q157
                (try rw [← Nbq6.out] at hx157_0)
                obtain rfl : ad156 = ad157 := (by injection e157)
                replace p157 := eq_true p157
                replace q157 := eq_true q157
                go_wp2
                go_roundg k1
                case measure => have := HK1.out; omega
                case rel => (try rw [← Nbq6.out]); exact ⟨(wrap64 (x7_1 + 1)), (by first | rfl | (simp; done) | (simp [*]; done)), H', ⟨by have := HK1.out; omega⟩, by repeat (first | exact Drawn0.refl _ | apply Drawn0.step)⟩
              · exact absurd rfl c9
            · replace c8 := Bool.eq_false_iff.mpr c8
              subst c8
              have H1 : (some false) = some r := by rw [if_neg (show ¬ (false = true) by decide)] at H; exact H
              clear H
              have H := H1
              clear H1
              obtain rfl := Option.some.inj H
              have p156 : 0 ≤ (x7_1 : Int) := of_decide_eq_true (by first | (with_reducible assumption) | assumption)
              have q156 : x7_1 < (l0.length : Int) := of_decide_eq_true (by first | (with_reducible assumption) | assumption)
              obtain ⟨ad156, e156, hx156_0, hx156_1⟩ := at_T59 HR0.out x7_1 p156 q156
              (try rw [← Nbq6.out] at hx156_0)
              cases e156
              replace p156 := eq_true p156
              replace q156 := eq_true q156
              go_wp2
              go_ret
              exact ⟨by first | rfl | (simp; done) | (simp [*]; done), by repeat (first | exact Drawn0.refl _ | apply Drawn0.step)⟩
          · replace c7 := Bool.eq_false_iff.mpr c7
            subst c7
            have H1 : (if (false = true) then (gramaryeref10_row.l0 k1 l0 a1 l2 (wrap64 (x7_1 + 1))) else (if 0 ≤ ((rd_T59 l0 x7_1).f1) then (if ((rd_T59 l0 x7_1).f1) < (l2.length : Int) then (if (rdOf false l2 ((rd_T59 l0 x7_1).f1) = true) then (gramaryeref10_row.l0 k1 l0 a1 l2 (wrap64 (x7_1 + 1))) else (some false)) else (none)) else (none))) = some r := by rw [if_neg (show ¬ (false = true) by decide)] at H; exact H
            clear H
            have H := H1
            clear H1
            by_cases c13 : (false = true)
            · exact absurd c13 (by decide)
            · replace c13 := Bool.eq_false_iff.mpr c13
              clear c13
              have H1 : (if 0 ≤ ((rd_T59 l0 x7_1).f1) then (if ((rd_T59 l0 x7_1).f1) < (l2.length : Int) then (if (rdOf false l2 ((rd_T59 l0 x7_1).f1) = true) then (gramaryeref10_row.l0 k1 l0 a1 l2 (wrap64 (x7_1 + 1))) else (some false)) else (none)) else (none)) = some r := by rw [if_neg (show ¬ (false = true) by decide)] at H; exact H
              clear H
              have H := H1
              clear H1
              by_cases c14 : 0 ≤ ((rd_T59 l0 x7_1).f1)
              · rw [if_pos c14] at H
                have c14b0 : decide (0 ≤ ((rd_T59 l0 x7_1).f1)) = true := decide_eq_true c14
                clear c14
                by_cases c15 : ((rd_T59 l0 x7_1).f1) < (l2.length : Int)
                · rw [if_pos c15] at H
                  have c15b0 : decide (((rd_T59 l0 x7_1).f1) < (l2.length : Int)) = true := decide_eq_true c15
                  clear c15
                  obtain ⟨bq16, hbq16⟩ : ∃ b_ : Bool, b_ = (rdOf false l2 ((rd_T59 l0 x7_1).f1)) := ⟨_, rfl⟩
                  replace H : (if (bq16 = true) then (gramaryeref10_row.l0 k1 l0 a1 l2 (wrap64 (x7_1 + 1))) else (some false)) = some r := by rw [← hbq16] at H; exact H
                  have Nbq16 := Aside0.mk hbq16
                  clear hbq16
                  by_cases c17 : (bq16 = true)
                  · subst c17
                    have H1 : (gramaryeref10_row.l0 k1 l0 a1 l2 (wrap64 (x7_1 + 1))) = some r := by rw [if_pos rfl] at H; exact H
                    clear H
                    have H := H1
                    clear H1
                    have H' := Aside0.mk H
                    clear H
                    have p156 : 0 ≤ (x7_1 : Int) := of_decide_eq_true (by first | (with_reducible assumption) | assumption)
                    have q156 : x7_1 < (l0.length : Int) := of_decide_eq_true (by first | (with_reducible assumption) | assumption)
                    obtain ⟨ad156, e156, hx156_0, hx156_1⟩ := at_T59 HR0.out x7_1 p156 q156
                    (try rw [← Nbq6.out] at hx156_0)
                    (try rw [← Nbq16.out] at hx156_0)
                    cases e156
                    replace p156 := eq_true p156
                    replace q156 := eq_true q156
                    have p160 : 0 ≤ (x7_1 : Int) := of_decide_eq_true (by first | (with_reducible assumption) | assumption)
                    have q160 : x7_1 < (l0.length : Int) := of_decide_eq_true (by first | (with_reducible assumption) | assumption)
                    obtain ⟨ad160, e160, hx160_0, hx160_1⟩ := at_T59 HR0.out x7_1 p160 q160
                    (try rw [← Nbq6.out] at hx160_0)
                    (try rw [← Nbq16.out] at hx160_0)
                    obtain rfl : ad156 = ad160 := (by injection e160)
                    replace p160 := eq_true p160
                    replace q160 := eq_true q160
                    have p161 : 0 ≤ (x7_1 : Int) := of_decide_eq_true (by first | (with_reducible assumption) | assumption)
                    have q161 : x7_1 < (l0.length : Int) := of_decide_eq_true (by first | (with_reducible assumption) | assumption)
                    obtain ⟨ad161, e161, hx161_0, hx161_1⟩ := at_T59 HR0.out x7_1 p161 q161
                    (try rw [← Nbq6.out] at hx161_0)
                    (try rw [← Nbq16.out] at hx161_0)
                    obtain rfl : ad156 = ad161 := (by injection e161)
                    replace p161 := eq_true p161
                    replace q161 := eq_true q161
                    have p162 : 0 ≤ (((rd_T59 l0 x7_1).f1) : Int) := of_decide_eq_true (by first | (with_reducible assumption) | assumption)
                    have q162 : ((rd_T59 l0 x7_1).f1) < (l2.length : Int) := of_decide_eq_true (by first | (with_reducible assumption) | assumption)
                    obtain ⟨ad162, e162, hx162_0⟩ := Kd.at_bool HR2.out ((rd_T59 l0 x7_1).f1) p162 q162
                    (try rw [← Nbq6.out] at hx162_0)
                    (try rw [← Nbq16.out] at hx162_0)
                    cases e162
                    replace p162 := eq_true p162
                    replace q162 := eq_true q162
                    go_wp2
                    go_roundg k1
                    case measure => have := HK1.out; omega
                    case rel => (try rw [← Nbq6.out]); (try rw [← Nbq16.out]); exact ⟨(wrap64 (x7_1 + 1)), (by first | rfl | (simp; done) | (simp [*]; done)), H', ⟨by have := HK1.out; omega⟩, by repeat (first | exact Drawn0.refl _ | apply Drawn0.step)⟩
                  · replace c17 := Bool.eq_false_iff.mpr c17
                    subst c17
                    have H1 : (some false) = some r := by rw [if_neg (show ¬ (false = true) by decide)] at H; exact H
                    clear H
                    have H := H1
                    clear H1
                    obtain rfl := Option.some.inj H
                    have p156 : 0 ≤ (x7_1 : Int) := of_decide_eq_true (by first | (with_reducible assumption) | assumption)
                    have q156 : x7_1 < (l0.length : Int) := of_decide_eq_true (by first | (with_reducible assumption) | assumption)
                    obtain ⟨ad156, e156, hx156_0, hx156_1⟩ := at_T59 HR0.out x7_1 p156 q156
                    (try rw [← Nbq6.out] at hx156_0)
                    (try rw [← Nbq16.out] at hx156_0)
                    cases e156
                    replace p156 := eq_true p156
                    replace q156 := eq_true q156
                    have p160 : 0 ≤ (x7_1 : Int) := of_decide_eq_true (by first | (with_reducible assumption) | assumption)
                    have q160 : x7_1 < (l0.length : Int) := of_decide_eq_true (by first | (with_reducible assumption) | assumption)
                    obtain ⟨ad160, e160, hx160_0, hx160_1⟩ := at_T59 HR0.out x7_1 p160 q160
                    (try rw [← Nbq6.out] at hx160_0)
                    (try rw [← Nbq16.out] at hx160_0)
                    obtain rfl : ad156 = ad160 := (by injection e160)
                    replace p160 := eq_true p160
                    replace q160 := eq_true q160
                    have p161 : 0 ≤ (x7_1 : Int) := of_decide_eq_true (by first | (with_reducible assumption) | assumption)
                    have q161 : x7_1 < (l0.length : Int) := of_decide_eq_true (by first | (with_reducible assumption) | assumption)
                    obtain ⟨ad161, e161, hx161_0, hx161_1⟩ := at_T59 HR0.out x7_1 p161 q161
                    (try rw [← Nbq6.out] at hx161_0)
                    (try rw [← Nbq16.out] at hx161_0)
                    obtain rfl : ad156 = ad161 := (by injection e161)
                    replace p161 := eq_true p161
                    replace q161 := eq_true q161
                    have p162 : 0 ≤ (((rd_T59 l0 x7_1).f1) : Int) := of_decide_eq_true (by first | (with_reducible assumption) | assumption)
                    have q162 : ((rd_T59 l0 x7_1).f1) < (l2.length : Int) := of_decide_eq_true (by first | (with_reducible assumption) | assumption)
                    obtain ⟨ad162, e162, hx162_0⟩ := Kd.at_bool HR2.out ((rd_T59 l0 x7_1).f1) p162 q162
                    (try rw [← Nbq6.out] at hx162_0)
                    (try rw [← Nbq16.out] at hx162_0)
                    cases e162
                    replace p162 := eq_true p162
                    replace q162 := eq_true q162
                    go_wp2
                    go_ret
                    exact ⟨by first | rfl | (simp; done) | (simp [*]; done), by repeat (first | exact Drawn0.refl _ | apply Drawn0.step)⟩
                · rw [if_neg c15] at H
                  exact absurd H (by simp)
              · rw [if_neg c14] at H
                exact absurd H (by simp)
        · rw [if_neg c5] at H
          exact absurd H (by simp)
      · rw [if_neg c4] at H
        have c4b0 : decide (x7_1 < (l0.length : Int)) = false := decide_eq_false c4
        clear c4
        obtain rfl := Option.some.inj H
        go_wp2
        go_ret
        exact ⟨by first | rfl | (simp; done) | (simp [*]; done), by repeat (first | exact Drawn0.refl _ | apply Drawn0.step)⟩
end Go.Proofs.Ytmpdilifoblnaaa.MReachWays
end
