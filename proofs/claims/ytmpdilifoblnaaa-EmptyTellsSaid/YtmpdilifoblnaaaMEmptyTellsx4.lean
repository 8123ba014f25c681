-- A text of this claim (written by this repo's wip/myprint.py).
import Derived.Test.YtmpdilifoblnaaaMEmptyTellsx0
namespace Go.Proofs.Ytmpdilifoblnaaa.MEmptyTells
open Go.RowKit Go.Proofs.YtmpdilifoblnaaaW.PrintWords Go.Proofs.YtmpdilifoblnaaaW.PrintLast Go.Proofs.YtmpdilifoblnaaaW.PrintMore Go.Proofs.Ytmpdilifoblnaaa.Fun Go.Proofs.Ytmpdilifoblnaaa.Mem
attribute [local go_sem] max2_int min2_int max_two min_two max_three min_three max_four min_four   -- for this text's walks alone
set_option linter.unusedVariables false
set_option linter.unusedSimpArgs false

/-! ### bnf_from1: function 61 -/
def bnf_from1.f (a0 : Int) (a1 : Int) : Option (Bool) := if a0 ≥ 1 then (some (decide (a0 ≤ a1))) else (some false)
set_option maxHeartbeats 8000000 in
set_option maxRecDepth 100000 in
theorem bnf_from1.calls (a0 : Int) (a1 : Int) (r : Bool) (w : World) (h : bnf_from1.f a0 a1 = some r) :
    Calls Try.prog 61 #[.int .i64 a0, .int .i64 a1] w fun e w' => e = .returned (.bool r) ∧ Drawn0 w w' := by
  have H : (if a0 ≥ 1 then (some (decide (a0 ≤ a1))) else (some false)) = some r := h
  clear h
  by_cases c3 : a0 ≥ 1
  · rw [if_pos c3] at H
    have c3b0 : decide (1 ≤ a0) = true := decide_eq_true c3
    clear c3
    obtain rfl := Option.some.inj H
    go_enter Try.func61, Try.ntmps61
    go_wp2
    go_ret
    exact ⟨by first | rfl | (simp; done) | (simp [*]; done), by repeat (first | exact Drawn0.refl _ | apply Drawn0.step)⟩
  · rw [if_neg c3] at H
    have c3b0 : decide (1 ≤ a0) = false := decide_eq_false c3
    clear c3
    obtain rfl := Option.some.inj H
    go_enter Try.func61, Try.ntmps61
    go_wp2
    go_ret
    exact ⟨by first | rfl | (simp; done) | (simp [*]; done), by repeat (first | exact Drawn0.refl _ | apply Drawn0.step)⟩

/-! ### api_Prod_74: function 74 -/
set_option maxHeartbeats 2000000 in
theorem api_Prod_74.calls (A : Option Addr) (c : Nat) (l : List S51) (g : Nat) (lb : Array Value) (p : S51 → Bool) (w : World) (hC : k51.C w A l.length l) (hc : l.length ≤ c)
    (eg : ∀ args w, (callFunc g args).run Try.prog w = .ok (.enter g args) w) (hp : PredK Try.prog true k51 g lb p (· ∈ l) w) :
    Calls Try.prog 74 #[.slice A l.length c, .func (.func g) #[] lb] w fun e w' => e = .returned (.int .i64 (firstAt p l)) ∧ Below w.heap.size w w' := by
  have HC := Aside0.mk hC
  have HP := Aside0.mk hp
  have hbig : l.length ≤ 9223372036854775807 := hC.2.1
  clear hC hp
  go_enter Try.func74, Try.ntmps74
  go_wp2
  go_loopg [5, 8] l.length (fun gg _ s8 wr => ∃ kk : Nat, kk ≤ l.length ∧ l.length - kk ≤ gg ∧ s8 = .int .i64 kk ∧ Aside0 (Below w.heap.size w wr) ∧ Aside0 (∀ j, (hj : j < kk) → (hl : j < l.length) → p l[j] = false))
  case atStart => exact ⟨0, Nat.zero_le _, by omega, rfl, ⟨Below.refl _ w⟩, ⟨fun j hj => absurd hj (Nat.not_lt_zero _)⟩⟩
  case round =>
    obtain ⟨kk, hkk, hg, rfl, BW, A'⟩ := hrel
    by_cases hlt : kk < l.length
    · have hltz : (kk : Int) < (l.length : Int) := by omega
      obtain ⟨ad, cs, hA, hlen, hK, hcell⟩ := Kd.C_get (Kd.C_below HC.out BW.out) z51 (kk : Int) (by omega) (by omega)
      have hlen2 : cs.length = 2 := hlen
      obtain ⟨u0, u1, rfl⟩ : ∃ u0 u1, cs = [u0, u1] := by
        match cs, hlen2 with
        | [u0, u1], _ => exact ⟨u0, u1, rfl⟩
      have hx : l.getD (kk : Int).toNat z51 = l[kk] := by rw [Int.toNat_natCast, List.getD_eq_getElem?_getD, List.getElem?_eq_getElem hlt]; rfl
      rw [hx] at hK
      have hcall := HP.out wr l[kk] [u0, u1] BW.out hK (List.getElem_mem hlt)
      have hc0 : wr.cell? (ad.add (kk * 2)) = some u0 := by have := hcell 0 u0 rfl; rwa [Int.toNat_natCast, Nat.add_zero] at this
      have hc1 : wr.cell? ⟨(ad.add (kk * 2)).block, (ad.add (kk * 2)).off + 1, none⟩ = some u1 := by
        have := hcell 1 u1 rfl
        rw [Int.toNat_natCast] at this
        rw [← add_field _ _ 1 (by omega)]; exact this
      clear hcell hlen hlen2 hK hx
      subst hA
      generalize hq : p l[kk] = q at hcall
      have HQ := Aside0.mk hq
      clear hq
      have Hcall := Aside0.mk hcall
      clear hcall
      cases q with
      | true =>
        go_wp2_with fail
        refine Hcall.out.mono ?_
        rintro e w' ⟨rfl, hb'⟩
        go_wp2_with fail
        go_ret
        exact ⟨by rw [firstAt_hit hlt (fun j hj => A'.out j hj (by omega)) HQ.out]; rfl, below_step BW.out hb'⟩
      | false =>
        go_wp2_with fail
        refine Hcall.out.mono ?_
        rintro e w' ⟨rfl, hb'⟩
        go_wp2_with fail
        go_roundg (l.length - (kk + 1))
        case measure => omega
        case rel =>
          refine ⟨kk + 1, by omega, by omega, by go_num, ⟨below_step BW.out hb'⟩, ⟨fun j hj hl => ?_⟩⟩
          by_cases e : j = kk
          · subst e; exact HQ.out
          · exact A'.out j (by omega) hl
    · have hltz : ¬ (kk : Int) < (l.length : Int) := by omega
      have hkl : l.length = kk := by omega
      go_wp2
      go_ret
      exact ⟨by rw [firstAt_miss (fun j hj => A'.out j (by omega) hj)]; rfl, BW.out⟩


/-! ### api_Prod_62: function 62 -/
set_option maxHeartbeats 2000000 in
theorem api_Prod_62.calls (A : Option Addr) (c : Nat) (l : List S51) (g : Nat) (lb : Array Value) (p : S51 → Bool) (w : World) (hC : k51.C w A l.length l) (hc : l.length ≤ c)
    (eg : ∀ args w, (callFunc g args).run Try.prog w = .ok (.enter g args) w) (hp : PredK Try.prog true k51 g lb p (· ∈ l) w) :
    Calls Try.prog 62 #[.slice A l.length c, .func (.func g) #[] lb] w fun e w' => e = .returned (.bool (l.any p)) ∧ Below w.heap.size w w' := by
  have H := Aside0.mk (api_Prod_74.calls A c l g lb p w hC hc eg hp)
  have E := Aside0.mk (firstAt_any p l)
  clear hC hp
  generalize firstAt p l = q at H E
  go_enter Try.func62, Try.ntmps62
  go_wp2_with fail
  refine H.out.mono ?_
  rintro e w' ⟨rfl, hb'⟩
  go_wp2_with fail
  go_ret
  exact ⟨by rw [← E.out]; rfl, hb'⟩


/-! ### bnf_long: function 63 -/
def bnf_long.f (a0_0 : Int) (l0_1 : List (S59)) : Option (Bool) := some (decide ((l0_1.length : Int) > 500))
set_option maxHeartbeats 8000000 in
set_option maxRecDepth 100000 in
theorem bnf_long.calls (a0_0 : Int) (A0_1 : Option Addr) (c0_1 : Nat) (l0_1 : List (S59)) (r : Bool) (w : World) (hr0_1 : Kd.C k59 w A0_1 l0_1.length l0_1) (hc0_1 : l0_1.length ≤ c0_1) (h : bnf_long.f a0_0 l0_1 = some r) :
    Calls Try.prog 63 #[.agg #[.int .i64 a0_0, .slice A0_1 l0_1.length c0_1]] w fun e w' => e = .returned (.bool r) ∧ Below w.heap.size w w' := by
  have hu51 := Try.underlying51
  have HR0_1 := Aside0.mk hr0_1
  have HC0_1 := Aside0.mk hc0_1
  clear hr0_1 hc0_1
  have HB := Aside0.mk (Below.refl w.heap.size w)
  have H : (some (decide ((l0_1.length : Int) > 500))) = some r := h
  clear h
  obtain rfl := Option.some.inj H
  go_enter Try.func63, Try.ntmps63
  go_wp2_with (first | ((with_reducible refine gate_dst (N := 1) rfl ?_); refine box_event ?hg (N := 1) ?hd (cs := #[.int .i64 a0_0, .slice A0_1 l0_1.length c0_1]) (t := 51) ?hr ?_; (case hd => rfl); (case hg => rfl); (case hr => first | (go_simp; done) | (go_simp; rfl)); intro gb135 hg w2 hbox hb; have n0_ := Aside0.mk (below_step (by repeat (first | (with_reducible first | exact HB.out | apply below_alloc | apply pw_below_drewN | apply below_drew1) | exact HB.out)) hb); have n1_ := Aside0.mk (hbox); have n2_ := Aside0.mk ((by rw [hg]; exact (below_size (by repeat (first | (with_reducible first | exact HB.out | apply below_alloc | apply pw_below_drewN | apply below_drew1) | exact HB.out))) : w.heap.size ≤ gb135)); have n3_ := Aside0.mk ((by rw [hg]; exact (below_size (by repeat (first | (with_reducible first | exact HB.out | apply below_alloc | apply pw_below_drewN | apply below_drew1) | exact HB.out))) : w.heap.size ≤ gb135)); clear HB; have HB := n0_; have BK135 := n1_; have GW135 := n2_; have GE135 := n3_; clear n0_ n1_ n2_ n3_; clear hb hbox hg; have hcz3_0 : w2.cell? ⟨gb135, 0, none⟩ = some (.int .i64 a0_0) := (blk_cell BK135.out 0).trans rfl; have hcz3_1 : w2.cell? ⟨gb135, 1, none⟩ = some (.slice A0_1 l0_1.length c0_1) := (blk_cell BK135.out 1).trans rfl; have hfz3_0 := blk_frozen BK135.out 0; have hfz3_1 := blk_frozen BK135.out 1))
  go_ret
  exact ⟨by first | rfl | (simp [errW_none, errW_some] <;> rfl) | (simp [*, errW_none, errW_some] <;> rfl), by repeat (first | (with_reducible first | exact HB.out | apply below_alloc | apply pw_below_drewN | apply below_drew1 | refine below_set ?_ GE135.out) | exact HB.out)⟩

/-! ### api_Sym_68: function 68 -/
set_option maxHeartbeats 2000000 in
theorem api_Sym_68.calls (A : Option Addr) (c : Nat) (l : List S59) (g : Nat) (lb : Array Value) (p : S59 → Bool) (w : World) (hC : k59.C w A l.length l) (hc : l.length ≤ c)
    (eg : ∀ args w, (callFunc g args).run Try.prog w = .ok (.enter g args) w) (hp : PredK Try.prog true k59 g lb p (· ∈ l) w) :
    Calls Try.prog 68 #[.slice A l.length c, .func (.func g) #[] lb] w fun e w' => e = .returned (.int .i64 (firstAt p l)) ∧ Below w.heap.size w w' := by
  have HC := Aside0.mk hC
  have HP := Aside0.mk hp
  have hbig : l.length ≤ 9223372036854775807 := hC.2.1
  clear hC hp
  go_enter Try.func68, Try.ntmps68
  go_wp2
  go_loopg [5, 8] l.length (fun gg _ s8 wr => ∃ kk : Nat, kk ≤ l.length ∧ l.length - kk ≤ gg ∧ s8 = .int .i64 kk ∧ Aside0 (Below w.heap.size w wr) ∧ Aside0 (∀ j, (hj : j < kk) → (hl : j < l.length) → p l[j] = false))
  case atStart => exact ⟨0, Nat.zero_le _, by omega, rfl, ⟨Below.refl _ w⟩, ⟨fun j hj => absurd hj (Nat.not_lt_zero _)⟩⟩
  case round =>
    obtain ⟨kk, hkk, hg, rfl, BW, A'⟩ := hrel
    by_cases hlt : kk < l.length
    · have hltz : (kk : Int) < (l.length : Int) := by omega
      obtain ⟨ad, cs, hA, hlen, hK, hcell⟩ := Kd.C_get (Kd.C_below HC.out BW.out) z59 (kk : Int) (by omega) (by omega)
      have hlen2 : cs.length = 2 := hlen
      obtain ⟨u0, u1, rfl⟩ : ∃ u0 u1, cs = [u0, u1] := by
        match cs, hlen2 with
        | [u0, u1], _ => exact ⟨u0, u1, rfl⟩
      have hx : l.getD (kk : Int).toNat z59 = l[kk] := by rw [Int.toNat_natCast, List.getD_eq_getElem?_getD, List.getElem?_eq_getElem hlt]; rfl
      rw [hx] at hK
      have hcall := HP.out wr l[kk] [u0, u1] BW.out hK (List.getElem_mem hlt)
      have hc0 : wr.cell? (ad.add (kk * 2)) = some u0 := by have := hcell 0 u0 rfl; rwa [Int.toNat_natCast, Nat.add_zero] at this
      have hc1 : wr.cell? ⟨(ad.add (kk * 2)).block, (ad.add (kk * 2)).off + 1, none⟩ = some u1 := by
        have := hcell 1 u1 rfl
        rw [Int.toNat_natCast] at this
        rw [← add_field _ _ 1 (by omega)]; exact this
      clear hcell hlen hlen2 hK hx
      subst hA
      generalize hq : p l[kk] = q at hcall
      have HQ := Aside0.mk hq
      clear hq
      have Hcall := Aside0.mk hcall
      clear hcall
      cases q with
      | true =>
        go_wp2_with fail
        refine Hcall.out.mono ?_
        rintro e w' ⟨rfl, hb'⟩
        go_wp2_with fail
        go_ret
        exact ⟨by rw [firstAt_hit hlt (fun j hj => A'.out j hj (by omega)) HQ.out]; rfl, below_step BW.out hb'⟩
      | false =>
        go_wp2_with fail
        refine Hcall.out.mono ?_
        rintro e w' ⟨rfl, hb'⟩
        go_wp2_with fail
        go_roundg (l.length - (kk + 1))
        case measure => omega
        case rel =>
          refine ⟨kk + 1, by omega, by omega, by go_num, ⟨below_step BW.out hb'⟩, ⟨fun j hj hl => ?_⟩⟩
          by_cases e : j = kk
          · subst e; exact HQ.out
          · exact A'.out j (by omega) hl
    · have hltz : ¬ (kk : Int) < (l.length : Int) := by omega
      have hkl : l.length = kk := by omega
      go_wp2
      go_ret
      exact ⟨by rw [firstAt_miss (fun j hj => A'.out j (by omega) hj)]; rfl, BW.out⟩


/-! ### api_Sym_45: function 45 -/
set_option maxHeartbeats 2000000 in
theorem api_Sym_45.calls (A : Option Addr) (c : Nat) (l : List S59) (g : Nat) (lb : Array Value) (p : S59 → Bool) (w : World) (hC : k59.C w A l.length l) (hc : l.length ≤ c)
    (eg : ∀ args w, (callFunc g args).run Try.prog w = .ok (.enter g args) w) (hp : PredK Try.prog true k59 g lb p (· ∈ l) w) :
    Calls Try.prog 45 #[.slice A l.length c, .func (.func g) #[] lb] w fun e w' => e = .returned (.bool (l.any p)) ∧ Below w.heap.size w w' := by
  have H := Aside0.mk (api_Sym_68.calls A c l g lb p w hC hc eg hp)
  have E := Aside0.mk (firstAt_any p l)
  clear hC hp
  generalize firstAt p l = q at H E
  go_enter Try.func45, Try.ntmps45
  go_wp2_with fail
  refine H.out.mono ?_
  rintro e w' ⟨rfl, hb'⟩
  go_wp2_with fail
  go_ret
  exact ⟨by rw [← E.out]; rfl, hb'⟩


/-! ### bnf_sym: function 76 -/
def bnf_sym.f (a0_0 : Int) (a0_1 : Int) (l0_2 : List Int) (l0_3 : List (S51)) (a1_0 : Bool) (a1_1 : Int) : Option (Bool) := if a1_0 = true then ((bnf_from1.f a1_1 a0_0).bind fun t138 => (some t138)) else (if a1_1 ≥ 0 then (some (decide (a1_1 < (l0_2.length : Int)))) else (some false))
set_option maxHeartbeats 8000000 in
set_option maxRecDepth 100000 in
theorem bnf_sym.calls (a0_0 : Int) (a0_1 : Int) (A0_2 : Option Addr) (c0_2 : Nat) (l0_2 : List Int) (A0_3 : Option Addr) (c0_3 : Nat) (l0_3 : List (S51)) (a1_0 : Bool) (a1_1 : Int) (r : Bool) (w : World) (hr0_2 : Kd.C (Kd.int .i64) w A0_2 l0_2.length l0_2) (hc0_2 : l0_2.length ≤ c0_2) (hr0_3 : Kd.C k51 w A0_3 l0_3.length l0_3) (hc0_3 : l0_3.length ≤ c0_3) (h : bnf_sym.f a0_0 a0_1 l0_2 l0_3 a1_0 a1_1 = some r) :
    Calls Try.prog 76 #[.agg #[.int .i64 a0_0, .int .i64 a0_1, .slice A0_2 l0_2.length c0_2, .slice A0_3 l0_3.length c0_3], .agg #[.bool a1_0, .int .i64 a1_1]] w fun e w' => e = .returned (.bool r) ∧ Below w.heap.size w w' := by
  have hu25 := Try.underlying25
  have hu59 := Try.underlying59
  have HR0_2 := Aside0.mk hr0_2
  have HC0_2 := Aside0.mk hc0_2
  clear hr0_2 hc0_2
  have HR0_3 := Aside0.mk hr0_3
  have HC0_3 := Aside0.mk hc0_3
  clear hr0_3 hc0_3
  have HB := Aside0.mk (Below.refl w.heap.size w)
  have H : (if a1_0 = true then ((bnf_from1.f a1_1 a0_0).bind fun t138 => (some t138)) else (if a1_1 ≥ 0 then (some (decide (a1_1 < (l0_2.length : Int)))) else (some false))) = some r := h
  clear h
  by_cases c3 : a1_0 = true
  · subst c3
    have H1 : ((bnf_from1.f a1_1 a0_0).bind fun t138 => (some t138)) = some r := by rw [if_pos rfl] at H; exact H
    clear H
    have H := H1
    clear H1
    replace H := Option.bind_eq_some_iff.mp H
    obtain ⟨t138, A40, H⟩ := H
    replace H : (some t138) = some r := H
    have A4 := Aside0.mk A40
    clear A40
    obtain rfl := Option.some.inj H
    go_enter Try.func76, Try.ntmps76
    go_wp2_with (first | ((with_reducible refine gate_dst (N := 2) rfl ?_); (try (refine gate_guard (by rfl) ?_; dsimp only)); refine box_event ?hg (N := 2) ?hd (cs := #[.int .i64 a0_0, .int .i64 a0_1, .slice A0_2 l0_2.length c0_2, .slice A0_3 l0_3.length c0_3]) (t := 25) ?hr ?_; (case hd => rfl); (case hg => rfl); (case hr => first | (go_simp; done) | (go_simp; rfl)); intro gb136 hg w5 hbox hb; have n0_ := Aside0.mk (below_step (by repeat (first | (with_reducible first | exact HB.out | apply below_alloc | apply pw_below_drewN | apply below_drew1) | exact HB.out)) hb); have n1_ := Aside0.mk (hbox); have n2_ := Aside0.mk ((by rw [hg]; exact (below_size (by repeat (first | (with_reducible first | exact HB.out | apply below_alloc | apply pw_below_drewN | apply below_drew1) | exact HB.out))) : w.heap.size ≤ gb136)); have n3_ := Aside0.mk ((by rw [hg]; exact (below_size (by repeat (first | (with_reducible first | exact HB.out | apply below_alloc | apply pw_below_drewN | apply below_drew1) | exact HB.out))) : w.heap.size ≤ gb136)); clear HB; have HB := n0_; have BK136 := n1_; have GW136 := n2_; have GE136 := n3_; clear n0_ n1_ n2_ n3_; clear hb hbox hg) | ((with_reducible refine gate_dst (N := 3) rfl ?_); (try (refine gate_guard (by rfl) ?_; dsimp only)); refine box_event ?hg (N := 3) ?hd (cs := #[.bool true, .int .i64 a1_1]) (t := 59) ?hr ?_; (case hd => rfl); (case hg => rfl); (case hr => first | (go_simp; done) | (go_simp; rfl)); intro gb137 hg w6 hbox hb; have n0_ := Aside0.mk (blk_below (g := gb136) (o := .cells #[.int .i64 a0_0, .int .i64 a0_1, .slice A0_2 l0_2.length c0_2, .slice A0_3 l0_3.length c0_3] 25 (0, 0)) (by (with_reducible repeat (first | refine blk_drewN ?_ _ | refine blk_drew ?_ | refine blk_alloc ?_ _)); exact BK136.out) hb); have n1_ := Aside0.mk (below_step (by repeat (first | (with_reducible first | exact HB.out | apply below_alloc | apply pw_below_drewN | apply below_drew1 | refine below_set ?_ GE136.out) | exact HB.out)) hb); have n2_ := Aside0.mk (hbox); have n3_ := Aside0.mk ((by rw [hg]; exact (below_size (by repeat (first | (with_reducible first | exact HB.out | apply below_alloc | apply pw_below_drewN | apply below_drew1 | refine below_set ?_ GE136.out) | exact HB.out))) : w.heap.size ≤ gb137)); have n4_ := Aside0.mk ((by rw [hg]; exact (below_size (by repeat (first | (with_reducible first | exact HB.out | apply below_alloc | apply pw_below_drewN | apply below_drew1 | refine below_set ?_ GE136.out) | exact HB.out))) : w.heap.size ≤ gb137)); have n5_ := Aside0.mk ((by rw [hg]; exact Nat.ne_of_lt (blk_lt (g := gb136) (o := .cells #[.int .i64 a0_0, .int .i64 a0_1, .slice A0_2 l0_2.length c0_2, .slice A0_3 l0_3.length c0_3] 25 (0, 0)) (by (with_reducible repeat (first | refine blk_drewN ?_ _ | refine blk_drew ?_ | refine blk_alloc ?_ _)); exact BK136.out)) : gb136 ≠ gb137)); have n6_ := Aside0.mk ((by rw [hg]; exact Nat.ne_of_gt (blk_lt (g := gb136) (o := .cells #[.int .i64 a0_0, .int .i64 a0_1, .slice A0_2 l0_2.length c0_2, .slice A0_3 l0_3.length c0_3] 25 (0, 0)) (by (with_reducible repeat (first | refine blk_drewN ?_ _ | refine blk_drew ?_ | refine blk_alloc ?_ _)); exact BK136.out)) : gb137 ≠ gb136)); clear BK136; clear HB; have BK136 := n0_; have HB := n1_; have BK137 := n2_; have GW137 := n3_; have GE137 := n4_; have NB136_137 := n5_; have NB137_136 := n6_; clear n0_ n1_ n2_ n3_ n4_ n5_ n6_; clear hb hbox hg; have hnb7 := NB137_136.out; have hnc7 := NB136_137.out; have hcz8_0 : w6.cell? ⟨gb137, 0, none⟩ = some (.bool true) := (blk_cell BK137.out 0).trans rfl; have hcz8_1 : w6.cell? ⟨gb137, 1, none⟩ = some (.int .i64 a1_1) := (blk_cell BK137.out 1).trans rfl; have hfz8_0 := blk_frozen BK137.out 0; have hfz8_1 := blk_frozen BK137.out 1; have hcz9_0 : w6.cell? ⟨gb136, 0, none⟩ = some (.int .i64 a0_0) := (blk_cell BK136.out 0).trans rfl; have hcz9_1 : w6.cell? ⟨gb136, 1, none⟩ = some (.int .i64 a0_1) := (blk_cell BK136.out 1).trans rfl; have hcz9_2 : w6.cell? ⟨gb136, 2, none⟩ = some (.slice A0_2 l0_2.length c0_2) := (blk_cell BK136.out 2).trans rfl; have hcz9_3 : w6.cell? ⟨gb136, 3, none⟩ = some (.slice A0_3 l0_3.length c0_3) := (blk_cell BK136.out 3).trans rfl; have hfz9_0 := blk_frozen BK136.out 0; have hfz9_1 := blk_frozen BK136.out 1; have hfz9_2 := blk_frozen BK136.out 2; have hfz9_3 := blk_frozen BK136.out 3) | ((with_reducible refine gate_callee (f := 61) rfl ?_); refine goesL_ (some 11) rfl rfl Try.func61 (by kernel_rfl) rfl #[.int .i64 a1_1, .int .i64 a0_0] rfl (by (try simp only [List.map_toArray, List.map_cons, List.map_nil]); first | done | rfl | (simp only [List.length_drop, List.length_take]; rfl)) ?_; (with_reducible refine (bnf_from1.calls a1_1 a0_0 t138 _ A4.out).mono ?_); rintro e w' ⟨rfl, ⟨nd, rfl⟩⟩; refine ⟨_, rfl, ?_⟩))
    go_ret
    exact ⟨by first | rfl | (simp [errW_none, errW_some] <;> rfl) | (simp [*, errW_none, errW_some] <;> rfl), by repeat (first | (with_reducible first | exact HB.out | apply below_alloc | apply pw_below_drewN | apply below_drew1 | refine below_set ?_ GE136.out | refine below_set ?_ GE137.out) | exact HB.out)⟩
  · replace c3 := Bool.eq_false_iff.mpr c3
    subst c3
    have H1 : (if a1_1 ≥ 0 then (some (decide (a1_1 < (l0_2.length : Int)))) else (some false)) = some r := by rw [if_neg (show ¬ (false = true) by decide)] at H; exact H
    clear H
    have H := H1
    clear H1
    by_cases c10 : a1_1 ≥ 0
    · rw [if_pos c10] at H
      have c10b0 : decide (0 ≤ a1_1) = true := decide_eq_true c10
      clear c10
      obtain rfl := Option.some.inj H
      go_enter Try.func76, Try.ntmps76
      go_wp2_with (first | ((with_reducible refine gate_dst (N := 2) rfl ?_); (try (refine gate_guard (by rfl) ?_; dsimp only)); refine box_event ?hg (N := 2) ?hd (cs := #[.int .i64 a0_0, .int .i64 a0_1, .slice A0_2 l0_2.length c0_2, .slice A0_3 l0_3.length c0_3]) (t := 25) ?hr ?_; (case hd => rfl); (case hg => rfl); (case hr => first | (go_simp; done) | (go_simp; rfl)); intro gb136 hg w11 hbox hb; have n0_ := Aside0.mk (below_step (by repeat (first | (with_reducible first | exact HB.out | apply below_alloc | apply pw_below_drewN | apply below_drew1) | exact HB.out)) hb); have n1_ := Aside0.mk (hbox); have n2_ := Aside0.mk ((by rw [hg]; exact (below_size (by repeat (first | (with_reducible first | exact HB.out | apply below_alloc | apply pw_below_drewN | apply below_drew1) | exact HB.out))) : w.heap.size ≤ gb136)); have n3_ := Aside0.mk ((by rw [hg]; exact (below_size (by repeat (first | (with_reducible first | exact HB.out | apply below_alloc | apply pw_below_drewN | apply below_drew1) | exact HB.out))) : w.heap.size ≤ gb136)); clear HB; have HB := n0_; have BK136 := n1_; have GW136 := n2_; have GE136 := n3_; clear n0_ n1_ n2_ n3_; clear hb hbox hg) | ((with_reducible refine gate_dst (N := 3) rfl ?_); (try (refine gate_guard (by rfl) ?_; dsimp only)); refine box_event ?hg (N := 3) ?hd (cs := #[.bool false, .int .i64 a1_1]) (t := 59) ?hr ?_; (case hd => rfl); (case hg => rfl); (case hr => first | (go_simp; done) | (go_simp; rfl)); intro gb137 hg w12 hbox hb; have n0_ := Aside0.mk (blk_below (g := gb136) (o := .cells #[.int .i64 a0_0, .int .i64 a0_1, .slice A0_2 l0_2.length c0_2, .slice A0_3 l0_3.length c0_3] 25 (0, 0)) (by (with_reducible repeat (first | refine blk_drewN ?_ _ | refine blk_drew ?_ | refine blk_alloc ?_ _)); exact BK136.out) hb); have n1_ := Aside0.mk (below_step (by repeat (first | (with_reducible first | exact HB.out | apply below_alloc | apply pw_below_drewN | apply below_drew1 | refine below_set ?_ GE136.out) | exact HB.out)) hb); have n2_ := Aside0.mk (hbox); have n3_ := Aside0.mk ((by rw [hg]; exact (below_size (by repeat (first | (with_reducible first | exact HB.out | apply below_alloc | apply pw_below_drewN | apply below_drew1 | refine below_set ?_ GE136.out) | exact HB.out))) : w.heap.size ≤ gb137)); have n4_ := Aside0.mk ((by rw [hg]; exact (below_size (by repeat (first | (with_reducible first | exact HB.out | apply below_alloc | apply pw_below_drewN | apply below_drew1 | refine below_set ?_ GE136.out) | exact HB.out))) : w.heap.size ≤ gb137)); have n5_ := Aside0.mk ((by rw [hg]; exact Nat.ne_of_lt (blk_lt (g := gb136) (o := .cells #[.int .i64 a0_0, .int .i64 a0_1, .slice A0_2 l0_2.length c0_2, .slice A0_3 l0_3.length c0_3] 25 (0, 0)) (by (with_reducible repeat (first | refine blk_drewN ?_ _ | refine blk_drew ?_ | refine blk_alloc ?_ _)); exact BK136.out)) : gb136 ≠ gb137)); have n6_ := Aside0.mk ((by rw [hg]; exact Nat.ne_of_gt (blk_lt (g := gb136) (o := .cells #[.int .i64 a0_0, .int .i64 a0_1, .slice A0_2 l0_2.length c0_2, .slice A0_3 l0_3.length c0_3] 25 (0, 0)) (by (with_reducible repeat (first | refine blk_drewN ?_ _ | refine blk_drew ?_ | refine blk_alloc ?_ _)); exact BK136.out)) : gb137 ≠ gb136)); clear BK136; clear HB; have BK136 := n0_; have HB := n1_; have BK137 := n2_; have GW137 := n3_; have GE137 := n4_; have NB136_137 := n5_; have NB137_136 := n6_; clear n0_ n1_ n2_ n3_ n4_ n5_ n6_; clear hb hbox hg; have hnb13 := NB137_136.out; have hnc13 := NB136_137.out; have hcz14_0 : w12.cell? ⟨gb137, 0, none⟩ = some (.bool false) := (blk_cell BK137.out 0).trans rfl; have hcz14_1 : w12.cell? ⟨gb137, 1, none⟩ = some (.int .i64 a1_1) := (blk_cell BK137.out 1).trans rfl; have hfz14_0 := blk_frozen BK137.out 0; have hfz14_1 := blk_frozen BK137.out 1; have hcz15_0 : w12.cell? ⟨gb136, 0, none⟩ = some (.int .i64 a0_0) := (blk_cell BK136.out 0).trans rfl; have hcz15_1 : w12.cell? ⟨gb136, 1, none⟩ = some (.int .i64 a0_1) := (blk_cell BK136.out 1).trans rfl; have hcz15_2 : w12.cell? ⟨gb136, 2, none⟩ = some (.slice A0_2 l0_2.length c0_2) := (blk_cell BK136.out 2).trans rfl; have hcz15_3 : w12.cell? ⟨gb136, 3, none⟩ = some (.slice A0_3 l0_3.length c0_3) := (blk_cell BK136.out 3).trans rfl; have hfz15_0 := blk_frozen BK136.out 0; have hfz15_1 := blk_frozen BK136.out 1; have hfz15_2 := blk_frozen BK136.out 2; have hfz15_3 := blk_frozen BK136.out 3))
      go_ret
      exact ⟨by first | rfl | (simp [errW_none, errW_some] <;> rfl) | (simp [*, errW_none, errW_some] <;> rfl), by repeat (first | (with_reducible first | exact HB.out | apply below_alloc | apply pw_below_drewN | apply below_drew1 | refine below_set ?_ GE136.out | refine below_set ?_ GE137.out) | exact HB.out)⟩
    · rw [if_neg c10] at H
      have c10b0 : decide (0 ≤ a1_1) = false := decide_eq_false c10
      clear c10
      obtain rfl := Option.some.inj H
      go_enter Try.func76, Try.ntmps76
      go_wp2_with (first | ((with_reducible refine gate_dst (N := 2) rfl ?_); (try (refine gate_guard (by rfl) ?_; dsimp only)); refine box_event ?hg (N := 2) ?hd (cs := #[.int .i64 a0_0, .int .i64 a0_1, .slice A0_2 l0_2.length c0_2, .slice A0_3 l0_3.length c0_3]) (t := 25) ?hr ?_; (case hd => rfl); (case hg => rfl); (case hr => first | (go_simp; done) | (go_simp; rfl)); intro gb136 hg w16 hbox hb; have n0_ := Aside0.mk (below_step (by repeat (first | (with_reducible first | exact HB.out | apply below_alloc | apply pw_below_drewN | apply below_drew1) | exact HB.out)) hb); have n1_ := Aside0.mk (hbox); have n2_ := Aside0.mk ((by rw [hg]; exact (below_size (by repeat (first | (with_reducible first | exact HB.out | apply below_alloc | apply pw_below_drewN | apply below_drew1) | exact HB.out))) : w.heap.size ≤ gb136)); have n3_ := Aside0.mk ((by rw [hg]; exact (below_size (by repeat (first | (with_reducible first | exact HB.out | apply below_alloc | apply pw_below_drewN | apply below_drew1) | exact HB.out))) : w.heap.size ≤ gb136)); clear HB; have HB := n0_; have BK136 := n1_; have GW136 := n2_; have GE136 := n3_; clear n0_ n1_ n2_ n3_; clear hb hbox hg) | ((with_reducible refine gate_dst (N := 3) rfl ?_); (try (refine gate_guard (by rfl) ?_; dsimp only)); refine box_event ?hg (N := 3) ?hd (cs := #[.bool false, .int .i64 a1_1]) (t := 59) ?hr ?_; (case hd => rfl); (case hg => rfl); (case hr => first | (go_simp; done) | (go_simp; rfl)); intro gb137 hg w17 hbox hb; have n0_ := Aside0.mk (blk_below (g := gb136) (o := .cells #[.int .i64 a0_0, .int .i64 a0_1, .slice A0_2 l0_2.length c0_2, .slice A0_3 l0_3.length c0_3] 25 (0, 0)) (by (with_reducible repeat (first | refine blk_drewN ?_ _ | refine blk_drew ?_ | refine blk_alloc ?_ _)); exact BK136.out) hb); have n1_ := Aside0.mk (below_step (by repeat (first | (with_reducible first | exact HB.out | apply below_alloc | apply pw_below_drewN | apply below_drew1 | refine below_set ?_ GE136.out) | exact HB.out)) hb); have n2_ := Aside0.mk (hbox); have n3_ := Aside0.mk ((by rw [hg]; exact (below_size (by repeat (first | (with_reducible first | exact HB.out | apply below_alloc | apply pw_below_drewN | apply below_drew1 | refine below_set ?_ GE136.out) | exact HB.out))) : w.heap.size ≤ gb137)); have n4_ := Aside0.mk ((by rw [hg]; exact (below_size (by repeat (first | (with_reducible first | exact HB.out | apply below_alloc | apply pw_below_drewN | apply below_drew1 | refine below_set ?_ GE136.out) | exact HB.out))) : w.heap.size ≤ gb137)); have n5_ := Aside0.mk ((by rw [hg]; exact Nat.ne_of_lt (blk_lt (g := gb136) (o := .cells #[.int .i64 a0_0, .int .i64 a0_1, .slice A0_2 l0_2.length c0_2, .slice A0_3 l0_3.length c0_3] 25 (0, 0)) (by (with_reducible repeat (first | refine blk_drewN ?_ _ | refine blk_drew ?_ | refine blk_alloc ?_ _)); exact BK136.out)) : gb136 ≠ gb137)); have n6_ := Aside0.mk ((by rw [hg]; exact Nat.ne_of_gt (blk_lt (g := gb136) (o := .cells #[.int .i64 a0_0, .int .i64 a0_1, .slice A0_2 l0_2.length c0_2, .slice A0_3 l0_3.length c0_3] 25 (0, 0)) (by (with_reducible repeat (first | refine blk_drewN ?_ _ | refine blk_drew ?_ | refine blk_alloc ?_ _)); exact BK136.out)) : gb137 ≠ gb136)); clear BK136; clear HB; have BK136 := n0_; have HB := n1_; have BK137 := n2_; have GW137 := n3_; have GE137 := n4_; have NB136_137 := n5_; have NB137_136 := n6_; clear n0_ n1_ n2_ n3_ n4_ n5_ n6_; clear hb hbox hg; have hnb18 := NB137_136.out; have hnc18 := NB136_137.out; have hcz19_0 : w17.cell? ⟨gb137, 0, none⟩ = some (.bool false) := (blk_cell BK137.out 0).trans rfl; have hcz19_1 : w17.cell? ⟨gb137, 1, none⟩ = some (.int .i64 a1_1) := (blk_cell BK137.out 1).trans rfl; have hfz19_0 := blk_frozen BK137.out 0; have hfz19_1 := blk_frozen BK137.out 1))
      go_ret
      exact ⟨by first | rfl | (simp [errW_none, errW_some] <;> rfl) | (simp [*, errW_none, errW_some] <;> rfl), by repeat (first | (with_reducible first | exact HB.out | apply below_alloc | apply pw_below_drewN | apply below_drew1 | refine below_set ?_ GE136.out | refine below_set ?_ GE137.out) | exact HB.out)⟩

/-! ### bnf_prod_1: function 75 -/
/-- May a symbol be, of so many tokens and nonterminals? -/
def bnf_symB (toks : Int) (n : Nat) (s : S59) : Bool := if s.f0 then decide (1 ≤ s.f1 ∧ s.f1 ≤ toks) else decide (0 ≤ s.f1 ∧ s.f1 < (n : Int))
theorem bnf_sym_is (toks look : Int) (o : List Int) (L : List S51) (s : S59) : bnf_sym.f toks look o L s.f0 s.f1 = some (bnf_symB toks o.length s) := by
  unfold bnf_sym.f bnf_from1.f bnf_symB
  cases s.f0 <;> simp
  · by_cases h : 0 ≤ s.f1 <;> simp [h]
  · by_cases h : 1 ≤ s.f1 <;> simp [h]
/-- The cells of plain rules in a box. -/
structure BnfAt (w : World) (b : Nat) (toks look : Int) (A2 : Option Addr) (c2 : Nat) (o : List Int) (A3 : Option Addr) (c3 : Nat) (L : List S51) : Prop where
  h0 : w.cell? ⟨b, 0, none⟩ = some (.int .i64 toks)
  h1 : w.cell? ⟨b, 1, none⟩ = some (.int .i64 look)
  h2 : w.cell? ⟨b, 2, none⟩ = some (.slice A2 o.length c2)
  h3 : w.cell? ⟨b, 3, none⟩ = some (.slice A3 L.length c3)
  r2 : Kd.C (Kd.int .i64) w A2 o.length o
  l2 : o.length ≤ c2
  r3 : Kd.C k51 w A3 L.length L
  l3 : L.length ≤ c3
theorem BnfAt.below {w w1 : World} {b : Nat} {toks look : Int} {A2 : Option Addr} {c2 : Nat} {o : List Int} {A3 : Option Addr} {c3 : Nat} {L : List S51} (h : BnfAt w b toks look A2 c2 o A3 c3 L) (hb : Below w.heap.size w w1) : BnfAt w1 b toks look A2 c2 o A3 c3 L :=
  ⟨pw_cell_below hb h.h0, pw_cell_below hb h.h1, pw_cell_below hb h.h2, pw_cell_below hb h.h3, Kd.C_below h.r2 hb, h.l2, Kd.C_below h.r3 hb, h.l3⟩

set_option maxHeartbeats 2000000 in
theorem bnf_prod1 {b : Nat} {toks look : Int} {A2 : Option Addr} {c2 : Nat} {o : List Int} {A3 : Option Addr} {c3 : Nat} {L : List S51} (w : World) (hB : BnfAt w b toks look A2 c2 o A3 c3 L) :
    PredK Try.prog true k59 75 #[.pointer (some ⟨b, 0, none⟩)] (fun s => !bnf_symB toks o.length s) (fun _ => True) w := by
  intro W s cs hb hK _
  obtain rfl := k59_open hK
  have HB := hB.below hb
  obtain ⟨h0, h1, h2, h3, r2, l2, r3, l3⟩ := HB
  have hlt : b < W.heap.size := World.block_lt_of_cell? W _ h0
  have HC := fun (W' : World) (hb' : Below W.heap.size W W') => bnf_sym.calls toks look A2 c2 o A3 c3 L s.f0 s.f1 _ W' (Kd.C_below r2 hb') l2 (Kd.C_below r3 hb') l3 (bnf_sym_is toks look o L s)
  have HC := Aside0.mk HC
  clear r2 r3
  show Calls Try.prog 75 #[.agg #[.bool s.f0, .int .i64 s.f1], .pointer (some ⟨b, 0, none⟩)] W fun e w' => e = .returned (.bool (!bnf_symB toks o.length s)) ∧ Below W.heap.size W w'
  generalize bnf_symB toks o.length s = q at HC
  go_enter Try.func75, Try.ntmps75
  go_wp2_with fail
  refine (HC.out _ ((Below.refl _ _).alloc (Nat.le_refl _) _)).mono ?_
  rintro e w' ⟨rfl, hb'⟩
  go_wp2_with fail
  go_ret
  exact ⟨rfl, below_step ((Below.refl _ _).alloc (Nat.le_refl _) _) hb'⟩


/-! ### bnf_prod: function 65 -/
/-- May a production be? -/
def bnf_prodB (toks : Int) (n : Nat) (p : S51) : Bool := decide (0 ≤ p.f0) && (decide (p.f0 < (n : Int)) && !(p.f1.any fun s => !bnf_symB toks n s))

set_option maxHeartbeats 4000000 in
theorem bnf_prod_calls (toks look : Int) (A2 : Option Addr) (c2 : Nat) (o : List Int) (A3 : Option Addr) (c3 : Nat) (L : List S51) (left : Int) (A1 : Option Addr) (c1 : Nat) (l : List S59) (w : World)
    (r2 : Kd.C (Kd.int .i64) w A2 o.length o) (l2 : o.length ≤ c2) (r3 : Kd.C k51 w A3 L.length L) (l3 : L.length ≤ c3) (r1 : Kd.C k59 w A1 l.length l) (l1 : l.length ≤ c1) :
    Calls Try.prog 65 #[.agg #[.int .i64 toks, .int .i64 look, .slice A2 o.length c2, .slice A3 L.length c3], .agg #[.int .i64 left, .slice A1 l.length c1]] w
      fun e w' => e = .returned (.bool (bnf_prodB toks o.length ⟨left, l⟩)) ∧ Below w.heap.size w w' := by
  let w1 := (w.alloc (.cells #[.int .i64 toks, .int .i64 look, .slice A2 o.length c2, .slice A3 L.length c3] 25)).alloc (.cells #[.int .i64 left, .slice A1 l.length c1] 51)
  have hb1 : Below w.heap.size w w1 := ((Below.refl _ _).alloc (Nat.le_refl _) _).alloc (by simp) _
  have hB : BnfAt w1 w.heap.size toks look A2 c2 o A3 c3 L := by
    refine ⟨?_, ?_, ?_, ?_, Kd.C_below r2 hb1, l2, Kd.C_below r3 hb1, l3⟩
    all_goals
      rw [World.cell?_alloc_past _ _ _ (by simp), World.cell?_alloc_at (hn := rfl)]
      rfl
  have HC := Aside0.mk (api_Sym_45.calls A1 c1 l 75 #[.pointer (some ⟨w.heap.size, 0, none⟩)] (fun s => !bnf_symB toks o.length s) w1 (Kd.C_below r1 hb1) l1 (fun args w => enters_ Try.func75 (by kernel_rfl) rfl args w) (fun W s cs hb hK _ => bnf_prod1 w1 hB W s cs hb hK trivial))
  have HB := Aside0.mk hb1
  clear hB r2 r3 r1 hb1
  have hfin : bnf_prodB toks o.length ⟨left, l⟩ = (decide (0 ≤ left) && (decide (left < (o.length : Int)) && !(l.any fun s => !bnf_symB toks o.length s))) := rfl
  rw [hfin]
  clear hfin
  generalize (l.any fun s => !bnf_symB toks o.length s) = q at HC
  by_cases c1 : 0 ≤ left
  · have c1b : decide (0 ≤ left) = true := decide_eq_true c1
    by_cases c2 : left < (o.length : Int)
    · have c2b : decide (left < (o.length : Int)) = true := decide_eq_true c2
      go_enter Try.func65, Try.ntmps65
      go_wp2_with fail
      refine HC.out.mono ?_
      rintro e w' ⟨rfl, hb'⟩
      go_wp2_with fail
      go_ret
      exact ⟨by simp [c1, c2], below_step HB.out hb'⟩
    · have c2b : decide (left < (o.length : Int)) = false := decide_eq_false c2
      go_enter Try.func65, Try.ntmps65
      go_wp2_with fail
      go_ret
      exact ⟨by simp [c1, c2], HB.out⟩
  · have c1b : decide (0 ≤ left) = false := decide_eq_false c1
    go_enter Try.func65, Try.ntmps65
    go_wp2_with fail
    go_ret
    exact ⟨by simp [c1], HB.out⟩


/-! ### bnf_May_1: function 64 -/
set_option maxHeartbeats 2000000 in
theorem bnf_may1 {b : Nat} {toks look : Int} {A2 : Option Addr} {c2 : Nat} {o : List Int} {A3 : Option Addr} {c3 : Nat} {L : List S51} (w : World) (hB : BnfAt w b toks look A2 c2 o A3 c3 L) :
    PredK Try.prog true k51 64 #[.pointer (some ⟨b, 0, none⟩)] (fun p => !bnf_prodB toks o.length p) (fun _ => True) w := by
  intro W p cs hb hK _
  obtain ⟨A1, c1, rfl, l1, r1⟩ := k51_open hK
  have HB := hB.below hb
  obtain ⟨h0, h1, h2, h3, r2, l2, r3, l3⟩ := HB
  have hlt : b < W.heap.size := World.block_lt_of_cell? W _ h0
  have HC := fun (W' : World) (hb' : Below W.heap.size W W') => bnf_prod_calls toks look A2 c2 o A3 c3 L p.f0 A1 c1 p.f1 W' (Kd.C_below r2 hb') l2 (Kd.C_below r3 hb') l3 (Kd.C_below r1 hb') l1
  have HC := Aside0.mk HC
  clear r2 r3 r1
  show Calls Try.prog 64 #[.agg #[.int .i64 p.f0, .slice A1 p.f1.length c1], .pointer (some ⟨b, 0, none⟩)] W fun e w' => e = .returned (.bool (!bnf_prodB toks o.length p)) ∧ Below W.heap.size W w'
  have hp : bnf_prodB toks o.length ⟨p.f0, p.f1⟩ = bnf_prodB toks o.length p := rfl
  rw [hp] at HC
  clear hp
  generalize bnf_prodB toks o.length p = q at HC
  go_enter Try.func64, Try.ntmps64
  go_wp2_with fail
  refine (HC.out _ ((Below.refl _ _).alloc (Nat.le_refl _) _)).mono ?_
  rintro e w' ⟨rfl, hb'⟩
  go_wp2_with fail
  go_ret
  exact ⟨rfl, below_step ((Below.refl _ _).alloc (Nat.le_refl _) _) hb'⟩


/-! ### bnf_May: function 37 -/
def bnf_longB (p : S51) : Bool := decide ((p.f1.length : Int) > 500)
theorem bnf_long_pred (w : World) : PredK Try.prog true k51 63 #[] bnf_longB (fun _ => True) w := by
  intro W p cs hb hK _
  obtain ⟨A1, c1, rfl, l1, r1⟩ := k51_open hK
  exact bnf_long.calls p.f0 A1 c1 p.f1 (bnf_longB p) W r1 l1 rfl

def bnf_mayB (toks look : Int) (o : List Int) (L : List S51) : Int :=
  if ¬ (1 ≤ toks ∧ toks ≤ 60) ∨ ¬ (1 ≤ o.length ∧ o.length ≤ 500) ∨ ¬ (1 ≤ L.length ∧ L.length ≤ 2000) ∨ L.any bnf_longB = true then 8
  else if ¬ (1 ≤ look ∧ look ≤ 4) then 11 else if L.any (fun p => !bnf_prodB toks o.length p) = true then 4 else 0
theorem bnf_from1_is (a b : Int) : bnf_from1.f a b = some (decide (1 ≤ a ∧ a ≤ b)) := by
  unfold bnf_from1.f
  by_cases h : 1 ≤ a <;> simp [h]

set_option maxHeartbeats 4000000 in
theorem bnf_may_calls (toks look : Int) (A2 : Option Addr) (c2 : Nat) (o : List Int) (A3 : Option Addr) (c3 : Nat) (L : List S51) (w : World)
    (r2 : Kd.C (Kd.int .i64) w A2 o.length o) (l2 : o.length ≤ c2) (r3 : Kd.C k51 w A3 L.length L) (l3 : L.length ≤ c3) :
    Calls Try.prog 37 #[.agg #[.int .i64 toks, .int .i64 look, .slice A2 o.length c2, .slice A3 L.length c3]] w
      fun e w' => e = .returned (.int .i64 (bnf_mayB toks look o L)) ∧ Below w.heap.size w w' := by
  let w1 := w.alloc (.cells #[.int .i64 toks, .int .i64 look, .slice A2 o.length c2, .slice A3 L.length c3] 25)
  have hb1 : Below w.heap.size w w1 := (Below.refl _ _).alloc (Nat.le_refl _) _
  have hB : BnfAt w1 w.heap.size toks look A2 c2 o A3 c3 L := by
    refine ⟨?_, ?_, ?_, ?_, Kd.C_below r2 hb1, l2, Kd.C_below r3 hb1, l3⟩
    all_goals
      rw [World.cell?_alloc_at (hn := rfl)]
      rfl
  have F1 := fun (a b : Int) (W : World) => bnf_from1.calls a b _ W (bnf_from1_is a b)
  have F1 := Aside0.mk F1
  have L1 := fun (W : World) (hb' : Below w1.heap.size w1 W) => api_Prod_62.calls A3 c3 L 63 #[] bnf_longB W (Kd.C_below (Kd.C_below r3 hb1) hb') l3 (fun args w => enters_ Try.func63 (by kernel_rfl) rfl args w) (fun W s cs hb hK _ => bnf_long_pred W W s cs (Below.refl _ _) hK trivial)
  have L1 := Aside0.mk L1
  have L2 := fun (W : World) (hb' : Below w1.heap.size w1 W) => api_Prod_62.calls A3 c3 L 64 #[.pointer (some ⟨w.heap.size, 0, none⟩)] (fun p => !bnf_prodB toks o.length p) W (Kd.C_below (Kd.C_below r3 hb1) hb') l3 (fun args w => enters_ Try.func64 (by kernel_rfl) rfl args w) (fun W2 s cs hb hK _ => bnf_may1 W (hB.below hb') W2 s cs hb hK trivial)
  have L2 := Aside0.mk L2
  have HB := Aside0.mk hb1
  obtain ⟨h0, h1, h2, h3, _, _, _, _⟩ := hB
  clear r2 r3 hb1
  have E : bnf_mayB toks look o L = (if !decide (1 ≤ toks ∧ toks ≤ 60) || (!decide (1 ≤ (o.length : Int) ∧ (o.length : Int) ≤ 500) || (!decide (1 ≤ (L.length : Int) ∧ (L.length : Int) ≤ 2000) || L.any bnf_longB)) then 8 else if !decide (1 ≤ look ∧ look ≤ 4) then 11 else if L.any (fun p => !bnf_prodB toks o.length p) then 4 else 0) := by
    have e1 : (1 ≤ (o.length : Int) ∧ (o.length : Int) ≤ 500) ↔ (1 ≤ o.length ∧ o.length ≤ 500) := by omega
    have e2 : (1 ≤ (L.length : Int) ∧ (L.length : Int) ≤ 2000) ↔ (1 ≤ L.length ∧ L.length ≤ 2000) := by omega
    unfold bnf_mayB
    simp only [e1, e2, Bool.or_eq_true, Bool.not_eq_true', decide_eq_false_iff_not]
  rw [E]
  clear E
  have G1 := Aside0.mk (fun W => F1.out toks 60 W)
  have G2 := Aside0.mk (fun W => F1.out o.length 500 W)
  have G3 := Aside0.mk (fun W => F1.out L.length 2000 W)
  have G4 := Aside0.mk (fun W => F1.out look 4 W)
  clear F1
  generalize decide (1 ≤ toks ∧ toks ≤ 60) = q1 at G1
  generalize decide (1 ≤ (o.length : Int) ∧ (o.length : Int) ≤ 500) = q2 at G2
  generalize decide (1 ≤ (L.length : Int) ∧ (L.length : Int) ≤ 2000) = q3 at G3
  generalize decide (1 ≤ look ∧ look ≤ 4) = q5 at G4
  generalize (L.any bnf_longB) = q4 at L1
  generalize (L.any fun p => !bnf_prodB toks o.length p) = q6 at L2
  go_enter Try.func37, Try.ntmps37
  go_wp2_with fail
  refine (G1.out _).mono ?_
  rintro e wa ⟨rfl, ⟨na, rfl⟩⟩
  cases q1 with
  | false => go_wp2_with fail; go_ret; exact ⟨rfl, (by repeat (first | exact HB.out | apply below_alloc | apply pw_below_drewN | apply below_drew1))⟩
  | true =>
    go_wp2_with fail
    refine (G2.out _).mono ?_
    rintro e wb ⟨rfl, ⟨nb, rfl⟩⟩
    cases q2 with
    | false => go_wp2_with fail; go_ret; exact ⟨rfl, (by repeat (first | exact HB.out | apply below_alloc | apply pw_below_drewN | apply below_drew1))⟩
    | true =>
      go_wp2_with fail
      refine (G3.out _).mono ?_
      rintro e wc ⟨rfl, ⟨nc, rfl⟩⟩
      cases q3 with
      | false => go_wp2_with fail; go_ret; exact ⟨rfl, (by repeat (first | exact HB.out | apply below_alloc | apply pw_below_drewN | apply below_drew1))⟩
      | true =>
        go_wp2_with fail
        refine (L1.out _ (by repeat (first | exact Below.refl _ _ | apply pw_below_drewN))).mono ?_
        rintro e wd ⟨rfl, hd⟩
        have HD : Aside0 (Below w1.heap.size w1 wd) := ⟨(pw_below_drewN (Below.refl _ _) _).trans hd⟩
        have HB2 : Aside0 (Below w.heap.size w wd) := ⟨below_step HB.out HD.out⟩
        have z0 := pw_cell_below HD.out h0
        have z1 := pw_cell_below HD.out h1
        have z2 := pw_cell_below HD.out h2
        have z3 := pw_cell_below HD.out h3
        clear h0 h1 h2 h3 hd HB
        cases q4 with
        | true => go_wp2_with fail; go_ret; exact ⟨rfl, HB2.out⟩
        | false =>
          go_wp2_with fail
          refine (G4.out _).mono ?_
          rintro e we ⟨rfl, ⟨ne, rfl⟩⟩
          cases q5 with
          | false => go_wp2_with fail; go_ret; exact ⟨rfl, pw_below_drewN HB2.out _⟩
          | true =>
            go_wp2_with fail
            refine (L2.out _ (pw_below_drewN HD.out _)).mono ?_
            rintro e wf ⟨rfl, hf⟩
            have HB3 : Aside0 (Below w.heap.size w wf) := ⟨below_step (pw_below_drewN HB2.out _) hf⟩
            clear hf z0 z1 z2 z3
            cases q6 with
            | true => go_wp2_with fail; go_ret; exact ⟨rfl, HB3.out⟩
            | false => go_wp2_with fail; go_ret; exact ⟨rfl, HB3.out⟩
theorem bnf_may_ok {toks look : Int} {o : List Int} {L : List S51} (h : bnf_mayB toks look o L = 0) : 1 ≤ o.length ∧ o.length ≤ 500 ∧ L.length ≤ 2000 ∧ ∀ p ∈ L, p.f1.length ≤ 500 ∧ 0 ≤ p.f0 ∧ p.f0 < (o.length : Int) ∧ ∀ s ∈ p.f1, s.f0 = false → 0 ≤ s.f1 ∧ s.f1 < (o.length : Int) := by
  unfold bnf_mayB at h
  by_cases h1 : ¬ (1 ≤ toks ∧ toks ≤ 60) ∨ ¬ (1 ≤ o.length ∧ o.length ≤ 500) ∨ ¬ (1 ≤ L.length ∧ L.length ≤ 2000) ∨ L.any bnf_longB = true
  · rw [if_pos h1] at h; exact absurd h (by decide)
  rw [if_neg h1] at h
  by_cases h2 : ¬ (1 ≤ look ∧ look ≤ 4)
  · rw [if_pos h2] at h; exact absurd h (by decide)
  rw [if_neg h2] at h
  by_cases h3 : L.any (fun p => !bnf_prodB toks o.length p) = true
  · rw [if_pos h3] at h; exact absurd h (by decide)
  have h4 : ¬ (L.any bnf_longB = true) := fun e => h1 (.inr (.inr (.inr e)))
  refine ⟨by omega, by omega, by omega, fun p hp => ?_⟩
  have a : bnf_longB p = false := by
    rcases hb : bnf_longB p with _ | _
    · rfl
    · exact absurd (List.any_eq_true.2 ⟨p, hp, hb⟩) h4
  have b : bnf_prodB toks o.length p = true := by
    rcases hb : bnf_prodB toks o.length p with _ | _
    · exact absurd (List.any_eq_true.2 ⟨p, hp, by rw [hb]; rfl⟩) h3
    · rfl
  unfold bnf_longB at a
  unfold bnf_prodB at b
  simp only [Bool.and_eq_true, decide_eq_true_eq, Bool.not_eq_true'] at b
  refine ⟨by simp at a; omega, b.1, b.2.1, fun s hs ht => ?_⟩
  have h5 := b.2.2
  rw [List.any_eq_false] at h5
  have h6 : bnf_symB toks o.length s = true := by simpa using h5 s hs
  unfold bnf_symB at h6
  rw [ht] at h6
  simpa using h6


/-! ### bits_Mul32: function 77 -/
def bits_Mul32.f (a0 : Int) (a1 : Int) : Option (Int × Int) := some (((IntKind.u64.wrap ((IntKind.u64.wrap (a0)) * (IntKind.u64.wrap (a1)))) / 4294967296) % 4294967296, (IntKind.u64.wrap ((IntKind.u64.wrap (a0)) * (IntKind.u64.wrap (a1)))) % 4294967296)
set_option maxHeartbeats 8000000 in
set_option maxRecDepth 100000 in
theorem bits_Mul32.calls (a0 : Int) (a1 : Int) (r1 : Int) (r2 : Int) (w : World) (h : bits_Mul32.f a0 a1 = some (r1, r2)) :
    Calls Try.prog 77 #[.int .u32 a0, .int .u32 a1] w fun e w' => e = .returned (.tuple #[.int .u32 r1, .int .u32 r2]) ∧ Drawn0 w w' := by
  have H : (some (((IntKind.u64.wrap ((IntKind.u64.wrap (a0)) * (IntKind.u64.wrap (a1)))) / 4294967296) % 4294967296, (IntKind.u64.wrap ((IntKind.u64.wrap (a0)) * (IntKind.u64.wrap (a1)))) % 4294967296)) = some (r1, r2) := h
  clear h
  simp only [Option.some.injEq, Prod.mk.injEq] at H
  obtain ⟨rfl, rfl⟩ := H
  go_enter Try.func77, Try.ntmps77
  go_wp2
  go_ret2
  exact ⟨by first | rfl | (simp; done) | (simp [*]; done), by repeat (first | exact Drawn0.refl _ | apply Drawn0.step)⟩

/-! ### bits_Mul64: function 78 -/
def bits_Mul64.f (a0 : Int) (a1 : Int) : Option (Int × Int) := some (IntKind.u64.wrap ((IntKind.u64.wrap ((IntKind.u64.wrap ((a0 / 4294967296) * (a1 / 4294967296))) + ((IntKind.u64.wrap ((IntKind.u64.wrap ((a0 / 4294967296) * (Go.bits .and .u64 a1 4294967295))) + ((IntKind.u64.wrap ((Go.bits .and .u64 a0 4294967295) * (Go.bits .and .u64 a1 4294967295))) / 4294967296))) / 4294967296))) + ((IntKind.u64.wrap ((Go.bits .and .u64 (IntKind.u64.wrap ((IntKind.u64.wrap ((a0 / 4294967296) * (Go.bits .and .u64 a1 4294967295))) + ((IntKind.u64.wrap ((Go.bits .and .u64 a0 4294967295) * (Go.bits .and .u64 a1 4294967295))) / 4294967296))) 4294967295) + (IntKind.u64.wrap ((Go.bits .and .u64 a0 4294967295) * (a1 / 4294967296))))) / 4294967296)), IntKind.u64.wrap (a0 * a1))
set_option maxHeartbeats 8000000 in
set_option maxRecDepth 100000 in
theorem bits_Mul64.calls (a0 : Int) (a1 : Int) (r1 : Int) (r2 : Int) (w : World) (h : bits_Mul64.f a0 a1 = some (r1, r2)) :
    Calls Try.prog 78 #[.int .u64 a0, .int .u64 a1] w fun e w' => e = .returned (.tuple #[.int .u64 r1, .int .u64 r2]) ∧ Drawn0 w w' := by
  have H : (some (IntKind.u64.wrap ((IntKind.u64.wrap ((IntKind.u64.wrap ((a0 / 4294967296) * (a1 / 4294967296))) + ((IntKind.u64.wrap ((IntKind.u64.wrap ((a0 / 4294967296) * (Go.bits .and .u64 a1 4294967295))) + ((IntKind.u64.wrap ((Go.bits .and .u64 a0 4294967295) * (Go.bits .and .u64 a1 4294967295))) / 4294967296))) / 4294967296))) + ((IntKind.u64.wrap ((Go.bits .and .u64 (IntKind.u64.wrap ((IntKind.u64.wrap ((a0 / 4294967296) * (Go.bits .and .u64 a1 4294967295))) + ((IntKind.u64.wrap ((Go.bits .and .u64 a0 4294967295) * (Go.bits .and .u64 a1 4294967295))) / 4294967296))) 4294967295) + (IntKind.u64.wrap ((Go.bits .and .u64 a0 4294967295) * (a1 / 4294967296))))) / 4294967296)), IntKind.u64.wrap (a0 * a1))) = some (r1, r2) := h
  clear h
  simp only [Option.some.injEq, Prod.mk.injEq] at H
  obtain ⟨rfl, rfl⟩ := H
  go_enter Try.func78, Try.ntmps78
  go_wp2
  go_ret2
  exact ⟨by first | rfl | (simp; done) | (simp [*]; done), by repeat (first | exact Drawn0.refl _ | apply Drawn0.step)⟩

/-! ### bits_Mul: function 66 -/
def bits_Mul.f (a0 : Int) (a1 : Int) : Option (Int × Int) := (bits_Mul64.f a0 a1).bind fun bt139 => (some (bt139.1, bt139.2))
set_option maxHeartbeats 8000000 in
set_option maxRecDepth 100000 in
theorem bits_Mul.calls (a0 : Int) (a1 : Int) (r1 : Int) (r2 : Int) (w : World) (h : bits_Mul.f a0 a1 = some (r1, r2)) :
    Calls Try.prog 66 #[.int .u64 a0, .int .u64 a1] w fun e w' => e = .returned (.tuple #[.int .u64 r1, .int .u64 r2]) ∧ Drawn0 w w' := by
  have H : ((bits_Mul64.f a0 a1).bind fun bt139 => (some (bt139.1, bt139.2))) = some (r1, r2) := h
  clear h
  replace H := Option.bind_eq_some_iff.mp H
  obtain ⟨⟨t139, t140⟩, A30, H⟩ := H
  replace H : (some (t139, t140)) = some (r1, r2) := H
  have A3 := Aside0.mk A30
  clear A30
  simp only [Option.some.injEq, Prod.mk.injEq] at H
  obtain ⟨rfl, rfl⟩ := H
  go_enter Try.func66, Try.ntmps66
  go_wp2_with (first | ((with_reducible refine gate_callee (f := 78) rfl ?_); refine goesL_ (some 25) rfl rfl Try.func78 (by kernel_rfl) rfl #[.int .u64 a0, .int .u64 a1] rfl (by (try simp only [List.map_toArray, List.map_cons, List.map_nil]); first | done | rfl | (simp only [List.length_drop, List.length_take]; rfl)) ?_; (with_reducible refine (bits_Mul64.calls a0 a1 t139 t140 _ A3.out).mono ?_); rintro e w' ⟨rfl, ⟨nd, rfl⟩⟩; refine ⟨_, rfl, ?_⟩))
  go_ret2
  exact ⟨by first | rfl | (simp; done) | (simp [*]; done), by repeat (first | exact Drawn0.refl _ | apply Drawn0.step)⟩

/-! ### slices_Repeat_int_int: function 38 -/
theorem rep_infoI : (Try.prog.info? 3).map (fun i => (i.zero, i.size, i.bytes)) = some (some (.int .i64 0), 1, 8) := by kernel_rfl
theorem mul_one_small : ∀ n : Fin 501, bits_Mul.f 1 ((n.val : Nat) : Int) = some (0, ((n.val : Nat) : Int)) := by decide +kernel
/-- Repeat's row: so many copies, then noughts. -/
def repRow (n j : Nat) : List Value := List.replicate j (.int .i64 (-1)) ++ List.replicate (n - j) (.int .i64 0)
theorem made_zeros (z : Value) (n : Nat) : madeCells #[z] n = (List.replicate n z).toArray := by
  exact Array.toList_inj.1 (by rw [toList_madeCells_one])
theorem rep_first (n : Nat) (h : 1 ≤ n) : ((repRow n 0).toArray.toList.take 0 ++ [.int .i64 (-1)] ++ (repRow n 0).toArray.toList.drop (0 + 1)) = repRow n 1 := by
  obtain ⟨m, rfl⟩ : ∃ m, n = m + 1 := ⟨n - 1, by omega⟩
  simp [repRow, List.replicate_succ]
theorem rep_next (n j m : Nat) (h : j + m ≤ n) : ((repRow n j).toArray.toList.take j ++ List.replicate m (.int .i64 (-1)) ++ (repRow n j).toArray.toList.drop (j + (List.replicate m (Value.int .i64 (-1))).length)) = repRow n (j + m) := by
  unfold repRow
  rw [List.length_replicate, List.take_append_of_le_length (by simp), List.take_of_length_le (by simp), List.drop_append, List.drop_of_length_le (by simp), List.nil_append, List.length_replicate, List.drop_replicate, List.replicate_append_replicate]
  congr 2
  omega
set_option maxHeartbeats 4000000 in
set_option maxRecDepth 100000 in
theorem repeat_calls (gx n : Nat) (w : World) (hx : w.cell? ⟨gx, 0, none⟩ = some (.int .i64 (-1))) (h0 : 1 ≤ n) (hn : n ≤ 500) :
    Calls Try.prog 38 #[.slice (some ⟨gx, 0, none⟩) 1 1, .int .i64 n] w fun e w' => ∃ g, e = .returned (.slice (some ⟨g, 0, none⟩) n n) ∧ Kd.R (Kd.int .i64) 3 w' w.heap.size (fun k => k = g) (.slice (some ⟨g, 0, none⟩) n n) (List.replicate n (-1)) ∧ Below w.heap.size w w' := by
  have hmk := fun W => run_make_row' (P := Try.prog) 22 3 (.int .i64 0) 8 Try.underlying22 rep_infoI rfl .i64 .i64 n (by omega) (by omega) W
  have HM := Aside0.mk (fun W => bits_Mul.calls 1 (n : Int) 0 (n : Int) W (mul_one_small ⟨n, by omega⟩))
  have c1 : decide ((n : Int) < 0) = false := by simp
  go_enter Try.func38, Try.ntmps38
  go_wp2_with fail
  refine (HM.out _).mono ?_
  rintro e w1 ⟨rfl, ⟨nd, rfl⟩⟩
  have c2 : decide ((n : Int) > 9223372036854775807) = false := by simp; omega
  have c3 : decide (9223372036854775807 < (n : Int)) = false := by simp; omega
  clear HM
  have hxw : (w.drewN nd).cell? ⟨gx, 0, none⟩ = some (.int .i64 (-1)) := hx
  have HB := Aside0.mk (pw_below_drewN (Below.refl w.heap.size w) nd)
  have HSZ := Aside0.mk (show (w.drewN nd).heap.size = w.heap.size from rfl)
  generalize w.drewN nd = w1 at hxw HB HSZ
  clear hx
  obtain ⟨W, hW⟩ : ∃ W, W = w1.alloc (.cells (madeCells #[.int .i64 0] n) 3) := ⟨_, rfl⟩
  have hcur : W.heap[w1.heap.size]? = some (.cells (repRow n 0).toArray 3 (0, 0)) := by rw [hW, hp_new rfl]; congr 1; congr 1; exact made_zeros _ _
  have hxW : W.cell? ⟨gx, 0, none⟩ = some (.int .i64 (-1)) := by rw [hW]; exact pw_cell_below (below_alloc (Below.refl _ _) _) hxw
  have HBW := Aside0.mk (show Below w.heap.size w W by rw [hW]; exact below_alloc HB.out _)
  have hrow1 : ((repRow n 0).toArray.toList.take 0 ++ [.int .i64 (-1)] ++ (repRow n 0).toArray.toList.drop (0 + 1)) = repRow n 1 := rep_first n h0
  have hc := run_copy_row (P := Try.prog) W 22 22 3 3 w1.heap.size 0 n n ⟨gx, 0, none⟩ 1 1 (repRow n 0).toArray 3 [.int .i64 (-1)] Try.underlying22 (by kernel_rfl) hcur (Nat.min_eq_left h0).symm (fun j v hj => by
    match j, hj with
    | 0, hj => simp at hj; subst hj; simpa [Addr.add] using hxW) (by simp [repRow]; omega) (by simp [Value.oneCell'])
  have hc2 : (Builtin.copy_ #[22, 22] 3 #[.slice (some ⟨w1.heap.size, 0, none⟩) n n, .slice (some ⟨gx, 0, none⟩) 1 1]).run Try.prog W = .ok (goInt 1) (W.setRow w1.heap.size (repRow n 1).toArray) := by rw [← hrow1]; exact hc
  have HC := Aside0.mk hc2
  have HW2 := Aside0.mk (setRow_heap W w1.heap.size (repRow n 0).toArray (repRow n 1).toArray 3 (0, 0) hcur)
  have HB2 := Aside0.mk (below_setRow HBW.out (by rw [HSZ.out]; exact Nat.le_refl _) (repRow n 1).toArray (g := w1.heap.size))
  have HWW := Aside0.mk hW
  clear hc hc2 hcur hxW hrow1 hxw hW
  go_wp2_with (first | ((with_reducible refine gate_builtin (b := .copy) (xs := #[.tmp 31, .tmp 32]) rfl ?_); (try (refine gate_guard (by rfl) ?_; dsimp only)); refine wp_copy_run rfl (.tmp 31) (.tmp 32) 22 22 rfl (by rfl) (by rfl) (by rw [← HWW.out]; exact HC.out) ?_))
  clear HC HWW HBW HB
  have hgs : w.heap.size ≤ w1.heap.size := Nat.le_of_eq HSZ.out.symm
  clear HSZ
  generalize W.setRow w1.heap.size (repRow n 1).toArray = W2 at HW2 HB2
  generalize w1.heap.size = g at HW2 hgs
  go_loopg [8] n (fun gg v8 wr => ∃ j : Nat, 1 ≤ j ∧ j ≤ n ∧ n - j ≤ gg ∧ v8 = .int .i64 j ∧ Aside0 (wr.heap[g]? = some (.cells (repRow n j).toArray 3 (0, 0))) ∧ Aside0 (Below w.heap.size w wr))
  case atStart => exact ⟨1, by omega, by omega, by omega, rfl, HW2, HB2⟩
  case round =>
    clear HW2 HB2
    obtain ⟨j, hj1, hjn, hg, rfl, HG, HB⟩ := hrel
    by_cases hlt : j < n
    · have hltz : (j : Int) < (n : Int) := by omega
      have hcut1 : ∀ W, (Instr.slice 22 (.slice (some ⟨g, 0, none⟩) n n) (some (.int .i64 j)) none none).run Try.prog W = .ok (.slice (some ⟨g, j, none⟩) (n - j) (n - j)) W := by
        intro W
        obtain ⟨j0, hq, hq2⟩ := Option.map_eq_some_iff.1 rep_infoI
        simp only [Prod.mk.injEq] at hq2
        rw [cut_from 22 3 .i64 Try.underlying22 hq 1 hq2.2.1 (some ⟨g, 0, none⟩) n n j (by omega) (by omega) W, Int.toNat_natCast, if_neg (by omega)]
        simp [add_plain]
      have hcut2 : ∀ W, (Instr.slice 22 (.slice (some ⟨g, 0, none⟩) n n) none (some (.int .i64 j)) none).run Try.prog W = .ok (.slice (some ⟨g, 0, none⟩) j n) W := by
        intro W
        obtain ⟨j0, hq, hq2⟩ := Option.map_eq_some_iff.1 rep_infoI
        simp only [Prod.mk.injEq] at hq2
        have h := cut_to 22 3 .i64 Try.underlying22 hq (some ⟨g, 0, none⟩) n n (j : Int) (by omega) (by omega) (Nat.le_refl _) W
        rwa [Int.toNat_natCast] at h
      obtain ⟨m, hm⟩ : ∃ m, m = min j (n - j) := ⟨_, rfl⟩
      have hmj : m ≤ j := by omega
      have hmn : j + m ≤ n := by omega
      have hm0 : 0 < m := by omega
      have hc : (Builtin.copy_ #[22, 22] 3 #[.slice (some ⟨g, j, none⟩) (n - j) (n - j), .slice (some ⟨g, 0, none⟩) j n]).run Try.prog wr.drew = .ok (goInt m) (wr.drew.setRow g (repRow n (j + m)).toArray) := by
        have h := run_copy_row (P := Try.prog) wr.drew 22 22 3 3 g j (n - j) (n - j) ⟨g, 0, none⟩ j n (repRow n j).toArray 3 (List.replicate m (.int .i64 (-1))) Try.underlying22 (by kernel_rfl) HG.out (by rw [List.length_replicate]; exact hm) (fun i v hi => by
          have hil : i < m := by
            rcases Nat.lt_or_ge i m with h' | h'
            · exact h'
            · rw [List.getElem?_eq_none (by rw [List.length_replicate]; exact h')] at hi; cases hi
          have hv : v = .int .i64 (-1) := by
            rw [List.getElem?_eq_getElem (by rw [List.length_replicate]; exact hil)] at hi
            simp at hi; exact hi.symm
          subst hv
          rw [add_plain]
          refine (blk_cell HG.out i).trans ?_
          rw [List.getElem?_toArray]
          unfold repRow
          rw [List.getElem?_append_left (by rw [List.length_replicate]; omega), List.getElem?_replicate, if_pos (by omega)]) (by simp [repRow]; omega) (fun v hv => by rw [List.eq_of_mem_replicate hv]; rfl)
        have e : ((repRow n j).toArray.toList.take j ++ List.replicate m (.int .i64 (-1)) ++ (repRow n j).toArray.toList.drop (j + (List.replicate m (Value.int .i64 (-1))).length)) = repRow n (j + m) := rep_next n j m hmn
        rw [e, List.length_replicate] at h
        exact h
      have HC := Aside0.mk hc
      have HG2 := Aside0.mk (setRow_heap wr.drew g (repRow n j).toArray (repRow n (j + m)).toArray 3 (0, 0) HG.out)
      have HB2 := Aside0.mk (below_setRow (below_drew1 HB.out) hgs (repRow n (j + m)).toArray (g := g))
      clear hc hm
      go_wp2_with fail
      go_region_held3 (fun w' => True) (trivial) ((refine step_copy_run (by rfl) _ _ 22 22 (by rfl) (by rfl) (by rfl) HC.out ?_))
      have hsum : IntKind.i64.wrap ((j : Int) + (m : Int)) = (j : Int) + (m : Int) := IntWalk.i64_in _ (by omega)
      go_wp2_with fail
      go_roundg (n - (j + m))
      case measure => omega
      case rel => exact ⟨j + m, by omega, by omega, by omega, by go_num, HG2, HB2⟩
    · have hjn2 : j = n := by omega
      subst hjn2
      go_wp2_with fail
      go_ret
      refine ⟨g, rfl, ?_, HB.out⟩
      have hg2 := HG.out
      rw [show repRow j j = encs (Value.int .i64) (List.replicate j (-1)) by simp [repRow, encs]] at hg2
      refine ⟨fun k hk => by simpa [Value.ownBlock] using hk.symm, encs (Value.int .i64) (List.replicate j (-1)), ⟨?_, .inr ⟨g, j, _, ?_, hgs, hg2, ?_, ?_, ?_, ?_⟩⟩, Kd.reps_scalar _⟩
      · simp [encs, Kd.int, Kd.scalar]
      · rw [List.length_replicate]
      · rw [List.length_replicate]; exact Nat.le_refl _
      · unfold maxLen; omega
      · simp [encs, Kd.int, Kd.scalar]
      · simp [encs, Kd.int, Kd.scalar]


end Go.Proofs.Ytmpdilifoblnaaa.MEmptyTells
