/-  -/
import Derived.Test.YtmpdilifoblnaaaZReachTellsx1
import Derived.Test.YtmpdilifoblnaaaZReachTellsx0
section
namespace Go.Proofs.Ytmpdilifoblnaaa.MReachTells
open Go.RowKit Go.Proofs.YtmpdilifoblnaaaW.PrintWords Go.Proofs.YtmpdilifoblnaaaW.PrintLast Go.Proofs.YtmpdilifoblnaaaW.PrintMore Go.Proofs.Ytmpdilifoblnaaa.Fun Go.Proofs.Ytmpdilifoblnaaa.Mem
attribute [local go_sem] max2_int min2_int max_two min_two max_three min_three max_four min_four
set_option linter.unusedVariables false
set_option linter.unusedSimpArgs false
def wayBack (f : Int → Int) : Nat → Int → List Int → Option (List Int)
  | 0, _, _ => none
  | k + 1, m, acc => if m ≥ 0 then (if acc.length < 1000000 then wayBack f k (f m) (acc ++ [m]) else none) else some acc
def wayG (l : List (List Int)) (K : Nat) (n : Int) : Option (List Int) :=
  (walkL l (wayTell n) K (walkPut (l.getD n.toNat []) (-1) (List.replicate l.length false, [])).1 (walkPut (l.getD n.toNat []) (-1) (List.replicate l.length false, [])).2 ⟨fun _ => 0, 0, false⟩).bind fun st =>
    if st.found = true then (wayBack st.f K (st.f n) [n]).bind fun acc => if acc.length ≤ 1000000 then slices_Reverse_int_int.f (acc.length + 5) (acc ++ [n]) else none else some []
def reach_Way.f (a0 a1 : Int) (l2 : List Int) (l3 : List S51) (n : Int) : Option (List Int) :=
  if thereB a0 a1 l2 l3 [n] = true then (empty_Nothing.f a0 a1 l2 l3).bind fun p => if p.1.length = l2.length then wayG (begG p.1 l2 l3) (l2.length + 2) n else none else some []
set_option maxRecDepth 100000 in
theorem WayJ.look {gb gf : Nat} {W : World} {st : WaySt} (h : WayJ gb gf W st) (m : Int) (hm : (Lit.int IntKind.i64 m).wf = true) :
    (Instr.lookup 71 (.map (some gb)) (.int .i64 m) false).run Try.prog W = .ok (.int .i64 (st.f m)) W ∧ (Lit.int IntKind.i64 (st.f m)).wf = true := by
  obtain ⟨D, hown, hat, _⟩ := h.out
  obtain ⟨c, hrun, hat', hwc⟩ := hown.lookup_int (t := 71) reach_law_int Try.underlying71 Try.underlying3 (by kernel_rfl) (Maps.keyOf_int_mk (P := Try.prog) (k := 3) Try.underlying3 hm)
  rw [hat] at hat'
  have e : st.f m = c := by injection hat' with e; injection e
  rw [e]
  exact ⟨hrun, hwc⟩
theorem row_one {w : World} {g : Nat} (a : Int) (h : w.heap[g]? = some (.cells #[.int .i64 a] 3 (0, 0))) : Kd.C (Kd.int .i64) w (some ⟨g, 0, none⟩) 1 [a] := by
  refine ⟨rfl, by decide, fun _ => ⟨_, rfl, fun j x hj => ⟨[.int .i64 x], rfl, rfl, fun k u hk => ?_⟩⟩⟩
  obtain ⟨rfl, rfl⟩ : k = 0 ∧ u = .int .i64 x := by
    cases k with
    | zero => exact ⟨rfl, by simpa using hk.symm⟩
    | succ k => simp at hk
  match j, hj with
  | 0, hj => obtain rfl := (show a = x by simpa using hj); exact (blk_cell h 0).trans rfl
  | j + 1, hj => simp at hj
set_option maxHeartbeats 8000000 in
set_option maxRecDepth 100000 in
theorem reach_Way.calls (toks look : Int) (A2 : Option Addr) (c2 : Nat) (o : List Int) (A3 : Option Addr) (c3 : Nat) (L : List S51) (n : Int) (r : List Int) (w : World)
    (r2 : Kd.C (Kd.int .i64) w A2 o.length o) (l2 : o.length ≤ c2) (r3 : Kd.C k51 w A3 L.length L) (l3 : L.length ≤ c3) (h : reach_Way.f toks look o L n = some r) :
    Calls Try.prog 24 #[.agg #[.int .i64 toks, .int .i64 look, .slice A2 o.length c2, .slice A3 L.length c3], .int .i64 n] w fun e w' => ∃ v0_ : Value, e = .returned v0_ ∧ Kd.R (Kd.int .i64) 3 w' w.heap.size (fun _ => True) v0_ r ∧ Below w.heap.size w w' := by
  obtain ⟨W1, hW1⟩ : ∃ W1, W1 = ((w.alloc (.cells #[.int .i64 toks, .int .i64 look, .slice A2 o.length c2, .slice A3 L.length c3] 25)).alloc (.cells #[.int .i64 n] 3)).alloc (.cells #[.int .i64 n] 3) := ⟨_, rfl⟩
  have hb1 : Below w.heap.size w W1 := by rw [hW1]; exact below_alloc (below_alloc (below_alloc (Below.refl _ _) _) _) _
  have hbx : W1.heap[w.heap.size]? = some (.cells #[.int .i64 toks, .int .i64 look, .slice A2 o.length c2, .slice A3 L.length c3] 25 (0, 0)) := by rw [hW1]; exact hp_old (hp_old (hp_new rfl))
  have hbn : W1.heap[w.heap.size + 1]? = some (.cells #[.int .i64 n] 3 (0, 0)) := by rw [hW1]; exact hp_old (hp_new (by simp))
  have hby : W1.heap[w.heap.size + 1 + 1]? = some (.cells #[.int .i64 n] 3 (0, 0)) := by rw [hW1]; exact hp_new (by simp)
  have HT := Aside0.mk (reach_there_calls toks look A2 c2 o A3 c3 L (some ⟨w.heap.size + 1 + 1, 0, none⟩) 1 [n] W1 (Kd.C_below r2 hb1) l2 (Kd.C_below r3 hb1) l3 (row_one n hby) (Nat.le_refl _))
  have HR2 := Aside0.mk r2
  have HR3 := Aside0.mk r3
  have HB1 := Aside0.mk hb1
  have x0 : W1.cell? ⟨w.heap.size, 0, none⟩ = some (.int .i64 toks) := (blk_cell hbx 0).trans rfl
  have x1 : W1.cell? ⟨w.heap.size, 1, none⟩ = some (.int .i64 look) := (blk_cell hbx 1).trans rfl
  have x2 : W1.cell? ⟨w.heap.size, 2, none⟩ = some (.slice A2 o.length c2) := (blk_cell hbx 2).trans rfl
  have x3 : W1.cell? ⟨w.heap.size, 3, none⟩ = some (.slice A3 L.length c3) := (blk_cell hbx 3).trans rfl
  have xn : W1.cell? ⟨w.heap.size + 1, 0, none⟩ = some (.int .i64 n) := (blk_cell hbn 0).trans rfl
  have HH := Aside0.mk (show ∀ q, thereB toks look o L [n] = q → (if q = true then (empty_Nothing.f toks look o L).bind fun p => if p.1.length = o.length then wayG (begG p.1 o L) (o.length + 2) n else none else some []) = some r from fun q hq => by rw [← hq]; exact h)
  have HIN := Aside0.mk (show thereB toks look o L [n] = true → _ from fun e => there_in e)
  clear r2 r3 hb1 hbx hby hbn h
  generalize thereB toks look o L [n] = q at HT HH HIN
  have HH2 := Aside0.mk (HH.out q rfl)
  clear HH
  go_enter Try.func24, Try.ntmps24
  go_wp2_with fail
  rw [← hW1]
  clear hW1
  refine HT.out.mono ?_
  rintro e w1 ⟨rfl, hb2⟩
  have HB2 := Aside0.mk (below_step HB1.out hb2)
  have y0 := pw_cell_below hb2 x0
  have y1 := pw_cell_below hb2 x1
  have y2 := pw_cell_below hb2 x2
  have y3 := pw_cell_below hb2 x3
  have yn := pw_cell_below hb2 xn
  clear x0 x1 x2 x3 xn hb2 HT
  cases q with
  | false =>
    have hh := HH2.out
    rw [if_neg (by decide)] at hh
    injection hh with hh
    subst hh
    go_wp2_with fail
    go_ret
    exact ⟨_, rfl, Kd.R_nil _ _ _ _ _, HB2.out⟩
  | true =>
    have hh := HH2.out
    rw [if_pos rfl] at hh
    obtain ⟨⟨mk, q2⟩, hN, h2⟩ := Option.bind_eq_some_iff.1 hh
    simp only at h2
    by_cases hml : mk.length = o.length
    · rw [if_pos hml] at h2
      obtain ⟨hmay, hin⟩ := HIN.out rfl
      have hn := hin n List.mem_cons_self
      have HBG := Aside0.mk (reach_begins_calls toks look A2 c2 o A3 c3 L mk q2 w1 (Kd.C_below HR2.out HB2.out) l2 (Kd.C_below HR3.out HB2.out) l3 hmay hN hml)
      have hO2 : o.length ≤ 500 := (bnf_may_ok hmay).2.1
      have HII := Aside0.mk (begG_ok hmay mk)
      have H2 := Aside0.mk h2
      have hn0 := hn.1
      have hn1 := hn.2
      clear hh HH2 h2 hN hml hmay hin hn HIN
      go_wp2_with fail
      refine HBG.out.mono ?_
      rintro e w2 ⟨g, rfl, hS, hb3⟩
      have hS : Steps w2 (fun k => w1.heap.size ≤ k) g (begG mk o L) := hS
      have HB3 := Aside0.mk (below_step HB2.out hb3)
      have yn2 := pw_cell_below hb3 yn
      have hll := HII.out.2
      have hkl : n.toNat < (begG mk o L).length := by omega
      have e : (begG mk o L).getD n.toNat [] = (begG mk o L)[n.toNat] := by rw [List.getD_eq_getElem?_getD, List.getElem?_eq_getElem hkl]; rfl
      have hin := HII.out.1 n.toNat
      have h2 := H2.out
      unfold wayG at h2
      rw [e] at hin h2
      obtain ⟨st, hst, h3⟩ := Option.bind_eq_some_iff.1 h2
      obtain ⟨Ar, cr, hcr, -, -, hQr, -⟩ := hS.row n.toNat hkl
      obtain ⟨W3, hW3⟩ : ∃ W3, W3 = ((w2.alloc (.map #[] 0)).alloc (.cells #[.map (some w2.heap.size)] 71)).alloc (.cells #[.bool false] 4) := ⟨_, rfl⟩
      have hb4 : Below w2.heap.size w2 W3 := by rw [hW3]; exact below_alloc (below_alloc (below_alloc (Below.refl _ _) _) _) _
      have hm3 : W3.heap[w2.heap.size + 1]? = some (.cells #[.map (some w2.heap.size)] 71 (0, 0)) := by rw [hW3]; exact hp_old (hp_new (by simp))
      have hf3 : W3.heap[w2.heap.size + 1 + 1]? = some (.cells #[.bool false] 4 (0, 0)) := by rw [hW3]; exact hp_new (by simp)
      have hj3 : WayJ w2.heap.size (w2.heap.size + 1 + 1) W3 ⟨fun _ => 0, 0, false⟩ := ⟨.map [], by
        rw [hW3]; exact ((World.ownsMap_made w2 _ _ _).alloc _).alloc _, fun i => rfl, hf3⟩
      have hnl : w.heap.size + 1 < w2.heap.size := World.block_lt_of_cell? w2 _ yn2
      have HC0 := reach_walk_calls (oks := fun k => w1.heap.size ≤ k ∧ k < w2.heap.size) (X := fun k => k = w2.heap.size ∨ k = w2.heap.size + 1 + 1) (J := WayJ w2.heap.size (w2.heap.size + 1 + 1)) (tell := wayTell n) (lb := #[.pointer (some ⟨w2.heap.size + 1, 0, none⟩), .pointer (some ⟨w.heap.size + 1, 0, none⟩), .pointer (some ⟨w2.heap.size + 1 + 1, 0, none⟩)]) g o.length (begG mk o L) Ar cr (begG mk o L)[n.toNat] W3 ⟨fun _ => 0, 0, false⟩ st
        (reach_way1 n (w2.heap.size + 1) w2.heap.size (w.heap.size + 1) (w2.heap.size + 1 + 1) W3 (begG mk o L).length (by omega) ((blk_cell hm3 0).trans rfl) (pw_cell_below hb4 yn2) (by omega) (by omega) (by omega) (by omega) (by omega) (by have := blk_lt hf3; omega) (blk_lt hf3)) (fun args w => enters_ Try.func52 (by kernel_rfl) rfl args w)
        ((hS.wider fun k hk ho => ⟨ho, hk⟩).below hb4) (fun k hk e => by have := hk.2; omega) (hQr.below hb4) (fun k hk e => by have := hQr.lt k hk; omega) (by omega) (by rw [hll]; exact HII.out.1) (by rw [hll]; exact hin) hj3 (o.length + 2) (by show 0 + _ ≤ _; omega) hst
      rw [hll] at HC0
      have HC := Aside0.mk HC0
      have HB4 := Aside0.mk (below_step HB3.out hb4)
      have HW3 := Aside0.mk hW3
      have H3 := Aside0.mk h3
      have HYN := Aside0.mk (pw_cell_below hb4 yn2)
      clear HC0 h2 H2 hin e hS hQr hb3 HBG y0 y1 y2 y3 yn hst hb4 hm3 hf3 hj3 hW3 h3
      generalize (begG mk o L)[n.toNat] = row at hcr HC
      clear hkl hll HII
      have hmm := @run_makeMap Try.prog
      obtain ⟨gn, hgn⟩ : ∃ gn, gn = w.heap.size + 1 := ⟨_, rfl⟩
      rw [← hgn] at HC HYN yn2 hnl
      rw [← hgn]
      clear hgn
      have hnl1 : gn < w2.heap.size + 1 := by omega
      have hnl2 : gn < w2.heap.size + 1 + 1 := by omega
      have hgl := World.block_lt_of_cell? w2 _ hcr
      have hgl1 : g < w2.heap.size + 1 := by have : g < w2.heap.size := hgl; omega
      have hgl2 : g < w2.heap.size + 1 + 1 := by omega
      go_wp2_with fail
      rw [← HW3.out]
      refine HC.out.mono ?_
      rintro e w4 ⟨rfl, hJ, hK⟩
      have hzz : ∀ W, (zeroValue 3).run Try.prog W = .ok (.int .i64 0) W := fun W => by kernel_rfl
      have hn4 : w4.cell? ⟨gn, 0, none⟩ = some (.int .i64 n) := (World.cell?_of_block (w := W3) (a := ⟨gn, 0, none⟩) (hK.block gn (World.block_lt_of_cell? W3 _ HYN.out) (show ¬ (gn = w2.heap.size ∨ gn = w2.heap.size + 1 + 1) by omega))).trans HYN.out
      have hm4 : w4.cell? ⟨w2.heap.size + 1, 0, none⟩ = some (.map (some w2.heap.size)) := (World.cell?_of_block (w := W3) (a := ⟨w2.heap.size + 1, 0, none⟩) (hK.block _ (by rw [HW3.out]; simp) (show ¬ (w2.heap.size + 1 = w2.heap.size ∨ w2.heap.size + 1 = w2.heap.size + 1 + 1) by omega))).trans (by rw [HW3.out]; exact (blk_cell (hp_old (hp_new (by simp))) 0).trans rfl)
      have HB5 := Aside0.mk (HB4.out.trans (hK.to_below (B := w.heap.size) HB4.out.size (by
        have := HB3.out.size
        rintro k hk (h | h) <;> omega)))
      have HJ := Aside0.mk hJ
      have hf4 : w4.cell? ⟨w2.heap.size + 1 + 1, 0, none⟩ = some (.bool st.found) := by
        obtain ⟨D, _, _, h⟩ := hJ.out
        exact (blk_cell h 0).trans rfl
      have hg4 : w2.heap.size + 1 + 1 < w4.heap.size := World.block_lt_of_cell? w4 _ hf4
      have h3 := H3.out
      clear H3 HC HYN HW3 hK hJ yn2 hcr hnl1 hnl2 hgl hgl1 hgl2 hmm hnl
      generalize w2.heap.size = gb at hm4 hf4 HJ hg4
      by_cases hfd : st.found = true
      · rw [if_pos hfd] at h3
        obtain ⟨acc, hwb, h4⟩ := Option.bind_eq_some_iff.1 h3
        rw [hfd] at hf4
        have HWB := Aside0.mk hwb
        have H4 := Aside0.mk h4
        clear h3 hwb h4 hfd
        obtain ⟨W5, hW5⟩ : ∃ W5, W5 = w4.alloc (.cells #[.int .i64 n] 3) := ⟨_, rfl⟩
        have hb5 : Below w4.heap.size w4 W5 := by rw [hW5]; exact below_alloc (Below.refl _ _) _
        have HJ5 := Aside0.mk (HJ.out.move (W1 := W5) (hb5.block _ (by omega)) (hb5.block _ (by omega)))
        have HRow := Aside0.mk (show Kd.R (Kd.int .i64) 3 W5 w4.heap.size (fun _ => True) (.slice (some ⟨w4.heap.size, 0, none⟩) 1 1) [n] by
          rw [hW5]
          exact Kd.R_of_own (World.ownsRow_lit (base := w4.heap.size) (e := 3) (size := 1) w4 #[.int .i64 n] 1 (Nat.le_refl _) (by decide) rfl) (fun _ _ => trivial))
        obtain ⟨hlk, hwf⟩ := HJ5.out.look n (WalkArith.wf_i64 ⟨by omega, by omega⟩)
        have HWF := Aside0.mk hwf
        have hb5' := Aside0.mk hb5
        rw [hW5] at hlk
        have hgl4 := World.block_lt_of_cell? w4 _ hn4
        have hgm4 := World.block_lt_of_cell? w4 _ hm4
        clear hwf hb5
        go_wp2_with fail
        rw [← hW5]
        have HW5 := Aside0.mk hW5
        clear hW5 hlk
        go_loopg [8, 9] (o.length + 2) (fun kq v8 v9 wr => ∃ (m : Int) (acc2 : List Int), v9 = .int .i64 m ∧ Aside0 (wayBack st.f kq m acc2 = some acc) ∧ Aside0 ((Lit.int IntKind.i64 m).wf = true) ∧ Aside0 (Kd.R (Kd.int .i64) 3 wr w4.heap.size (fun _ => True) v8 acc2) ∧ Aside0 (Below w4.heap.size w4 wr))
        case atStart => exact ⟨_, _, rfl, HWB, HWF, HRow, hb5'⟩
        case round =>
          clear HWB HWF HRow hb5'
          obtain ⟨m, acc2, rfl, HWB, HWF, HR, HB⟩ := hrel
          cases gk with
          | zero => exact absurd HWB.out (by simp [wayBack])
          | succ k1 =>
            have hwb := HWB.out
            rw [wayBack] at hwb
            have cn := pw_cell_below HB.out hn4
            have cm := pw_cell_below HB.out hm4
            by_cases hm0 : m ≥ 0
            · rw [if_pos hm0] at hwb
              by_cases hac : acc2.length < 1000000
              · rw [if_pos hac] at hwb
                have HWB2 := Aside0.mk hwb
                have d0 : decide (m ≥ 0) = true := decide_eq_true hm0
                have d1 : decide (0 ≤ m) = true := decide_eq_true hm0
                clear hwb HWB
                go_wp2_with (first | ((with_reducible refine gate_builtin (b := .append) (xs := #[.tmp 37, .tmp 39]) rfl ?_); (try (refine gate_guard (by rfl) ?_; dsimp only)); at_builtin; refine Kd.R_append (Kd.int .i64) (w0 := w4) w4.heap.size rfl (.tmp 37) (.tmp 39) 22 3 (.int .i64 0) 8 rfl Try.underlying22 reach_infoI rfl (by decide) (by omega) u8 acc2 m [.int .i64 m] (fun _ => True) (fun _ => False) rfl rfl ?aP (fun _ hk => hk.elim) ?aF ?aO ?aB ?aS ?aL ?_; (case aP => exact rfl); (case aB => exact HB.out); (case aF => exact (fun _ _ => trivial)); (case aO => exact HR.out); (case aS => exact HB.out.size); (case aL => omega); intro v9 w9 ho hb _ _; have HR9 := Aside0.mk ho; have HB9 := Aside0.mk hb; have cm9 := pw_cell_below hb hm4; obtain ⟨hlk, hwf⟩ := (HJ.out.move (W1 := w9) (hb.block _ (by omega)) (hb.block _ (by omega))).look m HWF.out; have HWF9 := Aside0.mk hwf; clear ho hb hwf))
                go_roundg k1
                case measure => omega
                case rel => exact ⟨_, _, rfl, HWB2, HWF9, HR9, HB9⟩
              · rw [if_neg hac] at hwb
                exact absurd hwb (by simp)
            · rw [if_neg hm0] at hwb
              injection hwb with hwb
              subst hwb
              have d0 : decide (m ≥ 0) = false := decide_eq_false hm0
              have d1 : decide (0 ≤ m) = false := decide_eq_false hm0
              have h4 := H4.out
              by_cases hac : acc2.length ≤ 1000000
              · rw [if_pos hac] at h4
                replace H4 := Aside0.mk h4
                clear h4
                go_wp2_with (first | ((with_reducible refine gate_builtin (b := .append) (xs := #[.tmp 41, .tmp 43]) rfl ?_); (try (refine gate_guard (by rfl) ?_; dsimp only)); at_builtin; refine Kd.R_append (Kd.int .i64) (w0 := w4) w4.heap.size rfl (.tmp 41) (.tmp 43) 22 3 (.int .i64 0) 8 rfl Try.underlying22 reach_infoI rfl (by decide) (by omega) u8 acc2 n [.int .i64 n] (fun _ => True) (fun _ => False) rfl rfl ?aP (fun _ hk => hk.elim) ?aF ?aO ?aB ?aS ?aL ?_; (case aP => exact rfl); (case aB => exact HB.out); (case aF => exact (fun _ _ => trivial)); (case aO => exact HR.out); (case aS => exact HB.out.size); (case aL => omega); intro v9 w9 ho hb _ _; have HR9 := Aside0.mk ho; have HB9 := Aside0.mk hb; clear ho hb))
                refine (slices_Reverse_int_int.calls (acc2.length + 5) (fun _ => True) v9 (acc2 ++ [n]) r w4 w9 HB9.out HR9.out H4.out).mono ?_
                rintro e w10 ⟨rfl, hr10, hb10, _⟩
                have HR10 := Aside0.mk hr10
                have HB10 := Aside0.mk hb10
                clear hr10 hb10
                go_wp2_with fail
                go_ret
                exact ⟨_, rfl, Kd.R_mono (Kd.R_lower HR10.out HB5.out.size) (fun _ _ => trivial), below_step HB5.out HB10.out⟩
              · rw [if_neg hac] at h4
                exact absurd h4 (by simp)
      · have hfd2 : st.found = false := by simpa using hfd
        rw [if_neg hfd] at h3
        injection h3 with h3
        subst h3
        rw [hfd2] at hf4
        clear hfd hfd2
        go_wp2_with fail
        go_ret
        exact ⟨_, rfl, Kd.R_nil _ _ _ _ _, HB5.out⟩
    · rw [if_neg hml] at h2
      exact absurd h2 (by simp)
def toTell (m : Int) (_ : Bool) (n _ : Int) : Bool × Bool := (decide (n = m), !decide (n = m))
def toF (l : List (List Int)) (first : List Int) (m : Int) (K : Nat) : Option Bool := walkL l (toTell m) K (walkPut first (-1) (List.replicate l.length false, [])).1 (walkPut first (-1) (List.replicate l.length false, [])).2 false
set_option maxHeartbeats 2000000 in
theorem reach_to1 (m : Int) (gm gi : Nat) (w0 : World) (n : Nat) (hm : w0.cell? ⟨gm, 0, none⟩ = some (.int .i64 m)) (hne : gm ≠ gi) (hgi : gi < w0.heap.size) :
    Told 73 #[.pointer (some ⟨gm, 0, none⟩), .pointer (some ⟨gi, 0, none⟩)] w0 n (fun k => k = gi) (fun W st => W.heap[gi]? = some (.cells #[.bool st] 4 (0, 0))) (toTell m) (fun _ => 0) := by
  refine ⟨fun _ _ _ => Nat.zero_le _, fun k hk => by rw [hk]; exact hgi, fun W W1 st h hk => (hk gi rfl).trans h, fun W st a b hK hJ _ a0 a1 b0 b1 => ?_⟩
  show Calls Try.prog 73 #[.int .i64 a, .int .i64 b, .pointer (some ⟨gm, 0, none⟩), .pointer (some ⟨gi, 0, none⟩)] W fun e W' => e = .returned (.bool (!decide (a = m))) ∧ W'.heap[gi]? = some (.cells #[.bool (decide (a = m))] 4 (0, 0)) ∧ Keeps (fun k => k = gi) W W'
  have hml := World.block_lt_of_cell? w0 _ hm
  have hmc : W.cell? ⟨gm, 0, none⟩ = some (.int .i64 m) := (World.cell?_of_block (w := w0) (a := ⟨gm, 0, none⟩) (hK.block gm hml hne)).trans hm
  have hic : W.cell? ⟨gi, 0, none⟩ = some (.bool st) := (blk_cell hJ 0).trans rfl
  have hif := blk_frozen hJ 0
  have HJ := Aside0.mk hJ
  clear hJ hK hm hml
  by_cases e : a = m
  · have e1 : decide (a = m) = true := decide_eq_true e
    rw [e1]
    subst e
    clear e1
    go_enter Try.func73, Try.ntmps73
    go_wp2_with fail
    go_ret
    exact ⟨rfl, blk_put (cs := #[.bool st]) HJ.out 0 _ rfl, (Keeps.refl _ _).set _ _ _ rfl⟩
  · have e1 : decide (a = m) = false := decide_eq_false e
    rw [e1]
    have e2 : (a == m) = false := by simpa using e
    go_enter Try.func73, Try.ntmps73
    go_wp2_with fail
    go_ret
    exact ⟨rfl, blk_put (cs := #[.bool st]) HJ.out 0 _ rfl, (Keeps.refl _ _).set _ _ _ rfl⟩
set_option maxHeartbeats 2000000 in
theorem reach_to_calls {oks : Nat → Prop} (g c : Nat) (l : List (List Int)) (Af : Option Addr) (cf : Nat) (first : List Int) (m : Int) (w : World) (hS : Steps w oks g l) (hf : QInts w 0 3 (.slice Af first.length cf) first)
    (hl : l.length ≤ 1000000) (hr : ∀ i, ∀ x ∈ l.getD i [], 0 ≤ x ∧ x < (l.length : Int)) (hfr : ∀ x ∈ first, 0 ≤ x ∧ x < (l.length : Int)) (K : Nat) (hK : K ≤ 1000000000) (r : Bool) (h : toF l first m K = some r) :
    Calls Try.prog 58 #[.slice (some ⟨g, 0, none⟩) l.length c, .slice Af first.length cf, .int .i64 m] w fun e w' => e = .returned (.bool r) ∧ Below w.heap.size w w' := by
  obtain ⟨W1, hW1⟩ : ∃ W1, W1 = (w.alloc (.cells #[.int .i64 m] 3)).alloc (.cells #[.bool false] 4) := ⟨_, rfl⟩
  have hb : Below w.heap.size w W1 := by rw [hW1]; exact below_alloc (below_alloc (Below.refl _ _) _) _
  have h0 : W1.heap[w.heap.size]? = some (.cells #[.int .i64 m] 3 (0, 0)) := by rw [hW1]; exact hp_old (hp_new rfl)
  have h1 : W1.heap[w.heap.size + 1]? = some (.cells #[.bool false] 4 (0, 0)) := by rw [hW1]; exact hp_new (by simp)
  have HC := Aside0.mk (reach_walk_calls (oks := fun k => oks k ∧ k < w.heap.size) (X := fun k => k = w.heap.size + 1) (lb := #[.pointer (some ⟨w.heap.size, 0, none⟩), .pointer (some ⟨w.heap.size + 1, 0, none⟩)]) g c l Af cf first W1 false r
    (reach_to1 m w.heap.size (w.heap.size + 1) W1 l.length ((blk_cell h0 0).trans rfl) (by omega) (blk_lt h1)) (fun args w => enters_ Try.func73 (by kernel_rfl) rfl args w)
    ((hS.wider fun k hk ho => ⟨ho, hk⟩).below hb) (fun k hk e => by have := hk.2; omega) (hf.below hb) (fun k hk e => by have := hf.lt k hk; omega) hl hr hfr h1 K (by omega) h)
  have HB := Aside0.mk hb
  have HW1 := Aside0.mk hW1
  clear hS hf hr hfr h hb h0 h1 hW1
  go_enter Try.func58, Try.ntmps58
  go_wp2_with fail
  rw [← HW1.out]
  refine HC.out.mono ?_
  rintro e w2 ⟨rfl, hJ, hK⟩
  have hb2 : Below w.heap.size w w2 := HB.out.trans (hK.to_below HB.out.size fun k hk e => by omega)
  have hc2 : w2.cell? ⟨w.heap.size + 1, 0, none⟩ = some (.bool r) := (blk_cell hJ 0).trans rfl
  have HB2 := Aside0.mk hb2
  clear hJ hK HC hb2
  go_wp2_with fail
  go_ret
  exact ⟨rfl, HB2.out⟩
def leftG (l : List (List Int)) (K : Nat) : Nat → Nat → List Int → Option (List Int)
  | 0, _, acc => some acc
  | d + 1, i, acc => (toF l (l.getD i []) (i : Int) K).bind fun r => leftG l K d (i + 1) (if r = true then acc ++ [(i : Int)] else acc)
def reach_Left.f (a0 a1 : Int) (l2 : List Int) (l3 : List S51) : Option (List Int × Int) :=
  if bnf_mayB a0 a1 l2 l3 = 0 then (empty_Nothing.f a0 a1 l2 l3).bind fun p => if p.1.length = l2.length then (leftG (begG p.1 l2 l3) (l2.length + 2) l2.length 0 []).map fun r => (r, 0) else none else some ([], bnf_mayB a0 a1 l2 l3)
set_option maxHeartbeats 4000000 in
set_option maxRecDepth 100000 in
theorem reach_Left.calls (toks look : Int) (A2 : Option Addr) (c2 : Nat) (o : List Int) (A3 : Option Addr) (c3 : Nat) (L : List S51) (r1 : List Int) (r2i : Int) (w : World)
    (r2 : Kd.C (Kd.int .i64) w A2 o.length o) (l2 : o.length ≤ c2) (r3 : Kd.C k51 w A3 L.length L) (l3 : L.length ≤ c3) (h : reach_Left.f toks look o L = some (r1, r2i)) :
    Calls Try.prog 29 #[.agg #[.int .i64 toks, .int .i64 look, .slice A2 o.length c2, .slice A3 L.length c3]] w fun e w' => ∃ v0_ : Value, e = .returned (.tuple #[v0_, .int .i64 r2i]) ∧ Kd.R (Kd.int .i64) 3 w' w.heap.size (fun _ => True) v0_ r1 ∧ Below w.heap.size w w' := by
  obtain ⟨W1, hW1⟩ : ∃ W1, W1 = w.alloc (.cells #[.int .i64 toks, .int .i64 look, .slice A2 o.length c2, .slice A3 L.length c3] 25) := ⟨_, rfl⟩
  have hb1 : Below w.heap.size w W1 := by rw [hW1]; exact below_alloc (Below.refl _ _) _
  have hbx : W1.heap[w.heap.size]? = some (.cells #[.int .i64 toks, .int .i64 look, .slice A2 o.length c2, .slice A3 L.length c3] 25 (0, 0)) := by rw [hW1]; exact hp_new rfl
  have HM := Aside0.mk (bnf_may_calls toks look A2 c2 o A3 c3 L W1 (Kd.C_below r2 hb1) l2 (Kd.C_below r3 hb1) l3)
  have HR2 := Aside0.mk r2
  have HR3 := Aside0.mk r3
  have HB1 := Aside0.mk hb1
  have HBX := Aside0.mk hbx
  have x0 : W1.cell? ⟨w.heap.size, 0, none⟩ = some (.int .i64 toks) := (blk_cell hbx 0).trans rfl
  have x1 : W1.cell? ⟨w.heap.size, 1, none⟩ = some (.int .i64 look) := (blk_cell hbx 1).trans rfl
  have x2 : W1.cell? ⟨w.heap.size, 2, none⟩ = some (.slice A2 o.length c2) := (blk_cell hbx 2).trans rfl
  have x3 : W1.cell? ⟨w.heap.size, 3, none⟩ = some (.slice A3 L.length c3) := (blk_cell hbx 3).trans rfl
  have HF := Aside0.mk (show ∀ q : Int, bnf_mayB toks look o L = q → (q = 0 ∧ r2i = 0 ∧ ∃ m q2, empty_Nothing.f toks look o L = some (m, q2) ∧ m.length = o.length ∧ leftG (begG m o L) (o.length + 2) o.length 0 [] = some r1) ∨ (q ≠ 0 ∧ r1 = [] ∧ r2i = q) from by
    intro q hq
    unfold reach_Left.f at h
    rw [hq] at h
    by_cases e : q = 0
    · rw [if_pos e] at h
      obtain ⟨⟨m, q2⟩, h1, h2⟩ := Option.bind_eq_some_iff.1 h
      simp only at h2
      by_cases e2 : m.length = o.length
      · rw [if_pos e2] at h2
        obtain ⟨r, h3, h4⟩ := Option.map_eq_some_iff.1 h2
        simp only [Prod.mk.injEq] at h4
        exact .inl ⟨e, h4.2.symm, m, q2, h1, e2, by rw [h3, h4.1]⟩
      · rw [if_neg e2] at h2; exact absurd h2 (by simp)
    · rw [if_neg e] at h
      simp only [Option.some.injEq, Prod.mk.injEq] at h
      exact .inr ⟨e, h.1.symm, h.2.symm⟩)
  have HMAY := Aside0.mk (fun e : bnf_mayB toks look o L = 0 => e)
  clear r2 r3 hb1 hbx h
  generalize hq : bnf_mayB toks look o L = q at HM HMAY
  have HQ := Aside0.mk (HF.out q hq)
  have HQ0 := Aside0.mk hq
  clear HF hq HMAY
  go_enter Try.func29, Try.ntmps29
  go_wp2_with fail
  rw [← hW1]
  clear hW1
  refine HM.out.mono ?_
  rintro e w1 ⟨rfl, hb2⟩
  have HB2 := Aside0.mk (below_step HB1.out hb2)
  have y0 := pw_cell_below hb2 x0
  have y1 := pw_cell_below hb2 x1
  have y2 := pw_cell_below hb2 x2
  have y3 := pw_cell_below hb2 x3
  clear x0 x1 x2 x3 hb2 HBX HM
  rcases HQ.out with ⟨rfl, rfl, m, q2, hN, hml, hG⟩ | ⟨hq0, rfl, rfl⟩
  · have HBG := Aside0.mk (reach_begins_calls toks look A2 c2 o A3 c3 L m q2 w1 (Kd.C_below HR2.out HB2.out) l2 (Kd.C_below HR3.out HB2.out) l3 HQ0.out hN hml)
    have hk := bnf_may_ok HQ0.out
    have hO2 : o.length ≤ 500 := hk.2.1
    have HIN := Aside0.mk (begG_ok HQ0.out m)
    have HG := Aside0.mk hG
    clear hk hG hN hml HQ
    go_wp2_with fail
    refine HBG.out.mono ?_
    rintro e w2 ⟨g, rfl, hS, hb3⟩
    have HB3 := Aside0.mk (below_step HB2.out hb3)
    have HS := Aside0.mk (show Steps w2 (fun k => w1.heap.size ≤ k) g (begG m o L) from hS)
    have hLl : (begG m o L).length = o.length := HIN.out.2
    have HII := Aside0.mk HIN.out.1
    clear hS hb3 HBG HIN y0 y1 y2 y3
    generalize begG m o L = l at HS HG hLl HII
    have HLL := Aside0.mk hLl
    clear hLl
    go_wp2_with fail
    go_loopg [6, 17] o.length (fun gg v6 v17 wr => ∃ (kk : Nat) (acc : List Int), kk ≤ o.length ∧ o.length - kk ≤ gg ∧ v17 = .int .i64 kk ∧ Aside0 (leftG l (o.length + 2) (o.length - kk) kk acc = some r1) ∧ acc.length ≤ kk ∧ Aside0 (Kd.R (Kd.int .i64) 3 wr w2.heap.size (fun _ => True) v6 acc) ∧ Aside0 (Below w2.heap.size w2 wr))
    case atStart => exact ⟨0, [], Nat.zero_le _, by omega, rfl, HG, Nat.le_refl _, ⟨Kd.R_nil _ _ _ _ _⟩, ⟨Below.refl _ _⟩⟩
    case round =>
      clear HG
      obtain ⟨kk, acc, hkk, hg, rfl, HG, hacc, HR, HB⟩ := hrel
      by_cases hlt : kk < o.length
      · have hltz : (kk : Int) < (o.length : Int) := by omega
        have hkl : kk < l.length := by rw [HLL.out]; exact hlt
        have hG := HG.out
        rw [show o.length - kk = (o.length - (kk + 1)) + 1 by omega, leftG] at hG
        obtain ⟨r, hr1, hr2⟩ := Option.bind_eq_some_iff.1 hG
        have e : l.getD kk [] = l[kk] := by rw [List.getD_eq_getElem?_getD, List.getElem?_eq_getElem hkl]; rfl
        have hin := HII.out kk
        rw [e] at hr1 hin
        have hSr := HS.out.below HB.out
        obtain ⟨Ar, cr, hcr, _, _, hQr, _⟩ := hSr.row kk hkl
        have HTO0 := reach_to_calls g o.length l Ar cr l[kk] (kk : Int) wr hSr hQr (by rw [HLL.out]; omega) (by rw [HLL.out]; exact HII.out) (by rw [HLL.out]; exact hin) (o.length + 2) (by omega) r hr1
        rw [HLL.out] at HTO0
        have HTO := Aside0.mk HTO0
        replace HG := Aside0.mk hr2
        clear HTO0 hG hr1 hr2 e hin hSr hQr
        generalize l[kk] = row at hcr HTO
        go_wp2_with fail
        refine HTO.out.mono ?_
        rintro e w3 ⟨rfl, hb⟩
        have HR3' := Aside0.mk (Kd.R_below HR.out hb)
        have HB3' := Aside0.mk (below_step HB.out hb)
        clear hb HTO HR HB hcr
        cases r with
        | false =>
          have hG := HG.out
          rw [if_neg (by decide)] at hG
          replace HG := Aside0.mk hG
          clear hG
          go_wp2_with fail
          go_roundg (o.length - (kk + 1))
          case measure => omega
          case rel => exact ⟨kk + 1, acc, by omega, by omega, by go_num, HG, by omega, HR3', HB3'⟩
        | true =>
          have hG := HG.out
          rw [if_pos rfl] at hG
          replace HG := Aside0.mk hG
          clear hG
          go_wp2_with (first | ((with_reducible refine gate_builtin (b := .append) (xs := #[.tmp 27, .tmp 29]) rfl ?_); (try (refine gate_guard (by rfl) ?_; dsimp only)); at_builtin; refine Kd.R_append (Kd.int .i64) (w0 := w2) w2.heap.size rfl (.tmp 27) (.tmp 29) 22 3 (.int .i64 0) 8 rfl Try.underlying22 reach_infoI rfl (by decide) (by omega) u6 acc (kk : Int) [.int .i64 kk] (fun _ => True) (fun _ => False) rfl rfl ?aP (fun _ hk => hk.elim) ?aF ?aO ?aB ?aS ?aL ?_; (case aP => exact rfl); (case aB => exact HB3'.out); (case aF => exact (fun _ _ => trivial)); (case aO => exact HR3'.out); (case aS => exact HB3'.out.size); (case aL => omega); intro v9 w9 ho hb _ _; have HR9 := Aside0.mk ho; have HB9 := Aside0.mk hb; clear ho hb))
          go_roundg (o.length - (kk + 1))
          case measure => omega
          case rel => exact ⟨kk + 1, _, by omega, by omega, by go_num, HG, by rw [List.length_append]; simp only [List.length_cons, List.length_nil]; omega, HR9, HB9⟩
      · have hltz : ¬ (kk : Int) < (o.length : Int) := by omega
        have hG := HG.out
        rw [show o.length - kk = 0 by omega, leftG] at hG
        injection hG with hG
        subst hG
        clear HG
        go_wp2_with fail
        go_ret2
        exact ⟨_, rfl, Kd.R_lower HR.out HB3.out.size, below_step HB3.out HB.out⟩
  · have e1 : (r2i != 0) = true := bne_iff_ne.mpr hq0
    have e2 : decide (r2i ≠ 0) = true := decide_eq_true hq0
    clear HQ hq0
    go_wp2_with fail
    go_ret2
    exact ⟨_, rfl, Kd.R_nil _ _ _ _ _, HB2.out⟩
def gramaryelaw11_sample.f  : Option (Int × Int × List Int × (List (S51))) := some (1, 1, (([(-1), (-1)] : List Int)), (([(⟨0, (([(⟨false, 1⟩ : S59), (⟨true, 1⟩ : S59)] : List (S59)))⟩ : S51), (⟨1, (([(⟨false, 0⟩ : S59)] : List (S59)))⟩ : S51), (⟨1, ([] : List (S59))⟩ : S51)] : List (S51))))
set_option maxHeartbeats 8000000 in
set_option maxRecDepth 100000 in
theorem gramaryelaw11_sample.calls  (r1 : Int) (r2 : Int) (r3 : List Int) (r4 : List (S51)) (w : World) (h : gramaryelaw11_sample.f  = some (r1, r2, r3, r4)) :
    Calls Try.prog 57 #[] w fun e w' => ∃ v2_ v3_ : Value, e = .returned (.agg #[.int .i64 r1, .int .i64 r2, v2_, v3_]) ∧ Kd.R (Kd.int .i64) 3 w' w.heap.size (fun k_ => (w.heap.size ≤ k_)) v2_ r3 ∧ Kd.N k51 51 w' w.heap.size (fun k_ => (w.heap.size ≤ k_) ∧ some k_ ≠ (v2_ : Value).ownBlock) v3_ r4 ∧ Below w.heap.size w w' := by
  have hu25 := Try.underlying25
  have hu59 := Try.underlying59
  have hu51 := Try.underlying51
  have HB := Aside0.mk (Below.refl w.heap.size w)
  have H : (some (1, 1, (([(-1), (-1)] : List Int)), (([(⟨0, (([(⟨false, 1⟩ : S59), (⟨true, 1⟩ : S59)] : List (S59)))⟩ : S51), (⟨1, (([(⟨false, 0⟩ : S59)] : List (S59)))⟩ : S51), (⟨1, ([] : List (S59))⟩ : S51)] : List (S51))))) = some (r1, r2, r3, r4) := h
  clear h
  obtain ⟨y158, hy158⟩ : ∃ y_ : List Int, y_ = (([(-1), (-1)] : List Int)) := ⟨_, rfl⟩
  replace H : (some (1, 1, y158, (([(⟨0, (([(⟨false, 1⟩ : S59), (⟨true, 1⟩ : S59)] : List (S59)))⟩ : S51), (⟨1, (([(⟨false, 0⟩ : S59)] : List (S59)))⟩ : S51), (⟨1, ([] : List (S59))⟩ : S51)] : List (S51))))) = some (r1, r2, r3, r4) := by first | (rw [hy158]; with_reducible exact H) | (have H2_ := (Option.bind_some _ _).symm.trans H; rw [hy158]; with_reducible exact H2_) | (have H2_ := (Option.bind_some _ _).symm.trans H; with_reducible exact H2_) | with_reducible exact H | (rw [hy158]; exact H) | exact H
  have Ny158 := Aside0.mk hy158
  clear hy158
  obtain ⟨y161, hy161⟩ : ∃ y_ : List (S59), y_ = (([(⟨false, 1⟩ : S59), (⟨true, 1⟩ : S59)] : List (S59))) := ⟨_, rfl⟩
  replace H : (some (1, 1, y158, (([(⟨0, y161⟩ : S51), (⟨1, (([(⟨false, 0⟩ : S59)] : List (S59)))⟩ : S51), (⟨1, ([] : List (S59))⟩ : S51)] : List (S51))))) = some (r1, r2, r3, r4) := by first | (rw [hy161]; with_reducible exact H) | (have H2_ := (Option.bind_some _ _).symm.trans H; rw [hy161]; with_reducible exact H2_) | (have H2_ := (Option.bind_some _ _).symm.trans H; with_reducible exact H2_) | with_reducible exact H | (rw [hy161]; exact H) | exact H
  have Ny161 := Aside0.mk hy161
  clear hy161
  obtain ⟨y164, hy164⟩ : ∃ y_ : List (S59), y_ = (([(⟨false, 0⟩ : S59)] : List (S59))) := ⟨_, rfl⟩
  replace H : (some (1, 1, y158, (([(⟨0, y161⟩ : S51), (⟨1, y164⟩ : S51), (⟨1, ([] : List (S59))⟩ : S51)] : List (S51))))) = some (r1, r2, r3, r4) := by first | (rw [hy164]; with_reducible exact H) | (have H2_ := (Option.bind_some _ _).symm.trans H; rw [hy164]; with_reducible exact H2_) | (have H2_ := (Option.bind_some _ _).symm.trans H; with_reducible exact H2_) | with_reducible exact H | (rw [hy164]; exact H) | exact H
  have Ny164 := Aside0.mk hy164
  clear hy164
  obtain ⟨y167, hy167⟩ : ∃ y_ : List (S51), y_ = (([(⟨0, y161⟩ : S51), (⟨1, y164⟩ : S51), (⟨1, ([] : List (S59))⟩ : S51)] : List (S51))) := ⟨_, rfl⟩
  replace H : (some (1, 1, y158, y167)) = some (r1, r2, r3, r4) := by first | (rw [hy167]; with_reducible exact H) | (have H2_ := (Option.bind_some _ _).symm.trans H; rw [hy167]; with_reducible exact H2_) | (have H2_ := (Option.bind_some _ _).symm.trans H; with_reducible exact H2_) | with_reducible exact H | (rw [hy167]; exact H) | exact H
  have Ny167 := Aside0.mk hy167
  clear hy167
  simp only [Option.some.injEq, Prod.mk.injEq] at H
  obtain ⟨rfl, rfl, rfl, rfl⟩ := H
  go_enter Try.func57, Try.ntmps57
  go_wp2_with (first | ((with_reducible refine gate_dst (N := 0) rfl ?_); refine box_event ?hg (N := 0) ?hd (cs := #[.int .i64 0, .int .i64 0, .slice none 0 0, .slice none 0 0]) (t := 25) ?hr ?_; (case hd => rfl); (case hg => rfl); (case hr => first | (go_simp; done) | (go_simp; rfl)); intro gb157 hg w1 hbox hb; have n0_ := Aside0.mk (below_step (by repeat (first | (with_reducible first | exact HB.out | apply below_alloc | apply pw_below_drewN | apply below_drew1) | exact HB.out)) hb); have n1_ := Aside0.mk (hbox); have n2_ := Aside0.mk ((by rw [hg]; exact (below_size (by repeat (first | (with_reducible first | exact HB.out | apply below_alloc | apply pw_below_drewN | apply below_drew1) | exact HB.out))) : w.heap.size ≤ gb157)); have n3_ := Aside0.mk ((by rw [hg]; exact (below_size (by repeat (first | (with_reducible first | exact HB.out | apply below_alloc | apply pw_below_drewN | apply below_drew1) | exact HB.out))) : w.heap.size ≤ gb157)); clear HB; have HB := n0_; have BK157 := n1_; have GW157 := n2_; have GE157 := n3_; clear n0_ n1_ n2_ n3_; clear hb hbox hg) | ((with_reducible refine gate_dst (N := 1) rfl ?_); refine Kd.R_lit (Kd.int .i64) _ 3 ?hg (N := 1) ?hd (xs := ([(-1), (-1)] : List Int)) (inner := [.int .i64 (-1), .int .i64 (-1)]) (ok := fun _ => True) (okp := fun _ => True) ?hr ?hp (fun _ hk => hk) trivial (Below.refl _ _) (Nat.le_refl _) (by simp) ?_; (case hd => rfl); (case hg => rfl); (case hr => first | (go_simp; done) | (go_simp; rfl)); (case hp => exact (Reps.one (show Kd.M (Kd.int .i64) _ _ _ (-1) [.int .i64 (-1)] from rfl) (Reps.one (show Kd.M (Kd.int .i64) _ _ _ (-1) [.int .i64 (-1)] from rfl) (Reps.none _ _)))); intro v159 w2 ho3 hb hg_ hnew_; clear hg_ hnew_; (first | rw [← Ny158.out] at ho3 | (simp only [Int.reduceToNat] at ho3; rw [← Ny158.out] at ho3)); have n0_ := Aside0.mk (Kd.R_lower (Kd.R_newM (M := fun k_ => (w.heap.size ≤ k_)) ho3 (below_size (by repeat (first | (with_reducible first | exact HB.out | apply below_alloc | apply pw_below_drewN | apply below_drew1 | refine below_set ?_ GE157.out) | exact HB.out))) (fun k_ h_ => h_)) (below_size (by repeat (first | (with_reducible first | exact HB.out | apply below_alloc | apply pw_below_drewN | apply below_drew1 | refine below_set ?_ GE157.out) | exact HB.out)))); have n1_ := Aside0.mk (blk_below (g := gb157) (o := .cells #[.int .i64 0, .int .i64 0, .slice none 0 0, .slice none 0 0] 25 (0, 0)) (by (with_reducible repeat (first | refine blk_drewN ?_ _ | refine blk_drew ?_ | refine blk_alloc ?_ _)); exact BK157.out) hb); have n2_ := Aside0.mk (below_step (by repeat (first | (with_reducible first | exact HB.out | apply below_alloc | apply pw_below_drewN | apply below_drew1 | refine below_set ?_ GE157.out) | exact HB.out)) hb); clear BK157; clear HB; have HO160 := n0_; have BK157 := n1_; have HB := n2_; clear n0_ n1_ n2_; clear hb ho3) | ((with_reducible refine gate_dst (N := 4) rfl ?_); refine Kd.R_lit k59 _ 59 ?hg (N := 4) ?hd (xs := ([(⟨false, 1⟩ : S59), (⟨true, 1⟩ : S59)] : List (S59))) (inner := [.bool false, .int .i64 1, .bool true, .int .i64 1]) (ok := fun _ => True) (okp := fun _ => True) ?hr ?hp (fun _ hk => hk) trivial (Below.refl _ _) (Nat.le_refl _) (by simp) ?_; (case hd => rfl); (case hg => rfl); (case hr => first | (go_simp; done) | (go_simp; rfl)); (case hp => exact (Reps.c2 (show Kd.M k59 _ _ _ (⟨false, 1⟩ : S59) [.bool false, .int .i64 1] from (k59_mkM _ _ _ (⟨false, 1⟩ : S59) )) (Reps.c2 (show Kd.M k59 _ _ _ (⟨true, 1⟩ : S59) [.bool true, .int .i64 1] from (k59_mkM _ _ _ (⟨true, 1⟩ : S59) )) (Reps.none _ _)))); intro v162 w4 ho5 hb hg_ hnew_; clear hg_ hnew_; (first | rw [← Ny161.out] at ho5 | (simp only [Int.reduceToNat] at ho5; rw [← Ny161.out] at ho5)); have n0_ := Aside0.mk (Kd.R_below (by (with_reducible repeat (first | apply Kd.R_alloc | apply Kd.R_drewN | apply Kd.R_drew)); exact HO160.out) hb); have n1_ := Aside0.mk (Kd.R_lower (Kd.R_newM (M := fun k_ => (w.heap.size ≤ k_)) ho5 (below_size (by repeat (first | (with_reducible first | exact HB.out | apply below_alloc | apply pw_below_drewN | apply below_drew1 | refine below_set ?_ GE157.out) | exact HB.out))) (fun k_ h_ => h_)) (below_size (by repeat (first | (with_reducible first | exact HB.out | apply below_alloc | apply pw_below_drewN | apply below_drew1 | refine below_set ?_ GE157.out) | exact HB.out)))); have n2_ := Aside0.mk (blk_below (g := gb157) (o := .cells #[.int .i64 0, .int .i64 0, .slice none 0 0, .slice none 0 0] 25 (0, 0)) (by (with_reducible repeat (first | refine blk_drewN ?_ _ | refine blk_drew ?_ | refine blk_alloc ?_ _)); exact BK157.out) hb); have n3_ := Aside0.mk (below_step (by repeat (first | (with_reducible first | exact HB.out | apply below_alloc | apply pw_below_drewN | apply below_drew1 | refine below_set ?_ GE157.out) | exact HB.out)) hb); clear HO160; clear BK157; clear HB; have HO160 := n0_; have HO163 := n1_; have BK157 := n2_; have HB := n3_; clear n0_ n1_ n2_ n3_; clear hb ho5; obtain ⟨Ao6, co6, eo6⟩ := Kd.R_slice HO163.out; subst eo6) | ((with_reducible refine gate_dst (N := 7) rfl ?_); refine Kd.R_lit k59 _ 59 ?hg (N := 7) ?hd (xs := ([(⟨false, 0⟩ : S59)] : List (S59))) (inner := [.bool false, .int .i64 0]) (ok := fun _ => True) (okp := fun _ => True) ?hr ?hp (fun _ hk => hk) trivial (Below.refl _ _) (Nat.le_refl _) (by simp) ?_; (case hd => rfl); (case hg => rfl); (case hr => first | (go_simp; done) | (go_simp; rfl)); (case hp => exact (Reps.c2 (show Kd.M k59 _ _ _ (⟨false, 0⟩ : S59) [.bool false, .int .i64 0] from (k59_mkM _ _ _ (⟨false, 0⟩ : S59) )) (Reps.none _ _))); intro v165 w7 ho8 hb hg_ hnew_; clear hg_ hnew_; (first | rw [← Ny164.out] at ho8 | (simp only [Int.reduceToNat] at ho8; rw [← Ny164.out] at ho8)); have n0_ := Aside0.mk (Kd.R_below (by (with_reducible repeat (first | apply Kd.R_alloc | apply Kd.R_drewN | apply Kd.R_drew)); exact HO160.out) hb); have n1_ := Aside0.mk (Kd.R_elder' (by (with_reducible repeat (first | apply Kd.R_alloc | apply Kd.R_drewN | apply Kd.R_drew)); exact HO163.out) (Kd.R_base ho8) hb); have n2_ := Aside0.mk (Kd.R_lower (Kd.R_new' (Kd.R_newM (M := fun k_ => (w.heap.size ≤ k_)) ho8 (below_size (by repeat (first | (with_reducible first | exact HB.out | apply below_alloc | apply pw_below_drewN | apply below_drew1 | refine below_set ?_ GE157.out) | exact HB.out))) (fun k_ h_ => h_)) (Kd.R_lt (by (with_reducible repeat (first | apply Kd.R_alloc | apply Kd.R_drewN | apply Kd.R_drew)); exact HO163.out))) (below_size (by repeat (first | (with_reducible first | exact HB.out | apply below_alloc | apply pw_below_drewN | apply below_drew1 | refine below_set ?_ GE157.out) | exact HB.out)))); have n3_ := Aside0.mk (blk_below (g := gb157) (o := .cells #[.int .i64 0, .int .i64 0, .slice none 0 0, .slice none 0 0] 25 (0, 0)) (by (with_reducible repeat (first | refine blk_drewN ?_ _ | refine blk_drew ?_ | refine blk_alloc ?_ _)); exact BK157.out) hb); have n4_ := Aside0.mk (below_step (by repeat (first | (with_reducible first | exact HB.out | apply below_alloc | apply pw_below_drewN | apply below_drew1 | refine below_set ?_ GE157.out) | exact HB.out)) hb); clear HO160; clear HO163; clear BK157; clear HB; have HO160 := n0_; have HO163 := n1_; have HO166 := n2_; have BK157 := n3_; have HB := n4_; clear n0_ n1_ n2_ n3_ n4_; clear hb ho8; obtain ⟨Ao9, co9, eo9⟩ := Kd.R_slice HO166.out; subst eo9) | ((with_reducible refine gate_dst (N := 10) rfl ?_); refine Kd.N_lit k51 _ 51 ?hg (N' := 10) ?hd (xs := ([(⟨0, y161⟩ : S51), (⟨1, y164⟩ : S51), (⟨1, ([] : List (S59))⟩ : S51)] : List (S51))) (inner := [.int .i64 0, .slice Ao6 y161.length co6, .int .i64 1, .slice Ao9 y164.length co9, .int .i64 1, .slice none 0 0]) (ok := (fun k_ => (w.heap.size ≤ k_) ∧ some k_ ≠ (v159 : Value).ownBlock ∧ k_ ≠ gb157)) (okp := (fun k_ => (w.heap.size ≤ k_) ∧ some k_ ≠ (v159 : Value).ownBlock ∧ k_ ≠ gb157)) ?hr ?hp (fun _ hk => hk) ((show ∀ k_, w7.heap.size ≤ k_ → (fun k_ => (w.heap.size ≤ k_) ∧ some k_ ≠ (v159 : Value).ownBlock ∧ k_ ≠ gb157) k_ from fun k_ hk => ⟨(Nat.le_trans (below_size (by repeat (first | (with_reducible first | exact HB.out | apply below_alloc | apply pw_below_drewN | apply below_drew1 | refine below_set ?_ GE157.out) | exact HB.out))) hk), Kd.fresh' (Kd.R_lt (by (with_reducible repeat (first | apply Kd.R_alloc | apply Kd.R_drewN | apply Kd.R_drew)); exact HO160.out)) k_ hk, Kd.freshB (g := gb157) (o := .cells #[.int .i64 0, .int .i64 0, .slice none 0 0, .slice none 0 0] 25 (0, 0)) (by (with_reducible repeat (first | refine blk_drewN ?_ _ | refine blk_drew ?_ | refine blk_alloc ?_ _)); exact BK157.out) k_ hk⟩) _ (Nat.le_refl _)) (Below.refl _ _) (Nat.le_refl _) (by simp) ?_; (case hd => rfl); (case hg => rfl); (case hr => first | (go_simp; done) | (go_simp; rfl)); (case hp => exact (Reps.c2 (show Kd.FK k51 _ _ (⟨0, y161⟩ : S51) [.int .i64 0, .slice Ao6 y161.length co6] from (k51_mkF _ _ (⟨0, y161⟩ : S51) (Kd.R_reads' (Kd.R_mono (ok' := (fun k_ => (w.heap.size ≤ k_) ∧ some k_ ≠ (v159 : Value).ownBlock ∧ k_ ≠ gb157)) (Kd.R_types (Kd.R_apart' (HO163.out) (Kd.R_typed HO160.out) (by decide)) BK157.out (by decide)) (fun k_ hk => ⟨hk.1.1.1.1, ⟨hk.1.2, hk.2⟩⟩))).2.1 (Kd.R_F (Kd.R_mono (ok' := (fun k_ => (w.heap.size ≤ k_) ∧ some k_ ≠ (v159 : Value).ownBlock ∧ k_ ≠ gb157)) (Kd.R_types (Kd.R_apart' (HO163.out) (Kd.R_typed HO160.out) (by decide)) BK157.out (by decide)) (fun k_ hk => ⟨hk.1.1.1.1, ⟨hk.1.2, hk.2⟩⟩))))) (Reps.c2 (show Kd.FK k51 _ _ (⟨1, y164⟩ : S51) [.int .i64 1, .slice Ao9 y164.length co9] from (k51_mkF _ _ (⟨1, y164⟩ : S51) (Kd.R_reads' (Kd.R_mono (ok' := (fun k_ => (w.heap.size ≤ k_) ∧ some k_ ≠ (v159 : Value).ownBlock ∧ k_ ≠ gb157)) (Kd.R_types (Kd.R_apart' (HO166.out) (Kd.R_typed HO160.out) (by decide)) BK157.out (by decide)) (fun k_ hk => ⟨hk.1.1.1.1, ⟨hk.1.2, hk.2⟩⟩))).2.1 (Kd.R_F (Kd.R_mono (ok' := (fun k_ => (w.heap.size ≤ k_) ∧ some k_ ≠ (v159 : Value).ownBlock ∧ k_ ≠ gb157)) (Kd.R_types (Kd.R_apart' (HO166.out) (Kd.R_typed HO160.out) (by decide)) BK157.out (by decide)) (fun k_ hk => ⟨hk.1.1.1.1, ⟨hk.1.2, hk.2⟩⟩))))) (Reps.c2 (show Kd.FK k51 _ _ (⟨1, ([] : List (S59))⟩ : S51) [.int .i64 1, .slice none 0 0] from (k51_mkF _ _ (⟨1, ([] : List (S59))⟩ : S51) (Nat.le_refl _) (Kd.F_nil _ _ _))) (Reps.none _ _))))); intro v168 w10 ho11 hb hg_ hnew_; clear hg_ hnew_; (first | rw [← Ny167.out] at ho11 | (simp only [Int.reduceToNat] at ho11; rw [← Ny167.out] at ho11)); have n0_ := Aside0.mk (Kd.R_below (by (with_reducible repeat (first | apply Kd.R_alloc | apply Kd.R_drewN | apply Kd.R_drew)); exact HO160.out) hb); have n1_ := Aside0.mk (Kd.N_lower ho11 (below_size (by repeat (first | (with_reducible first | exact HB.out | apply below_alloc | apply pw_below_drewN | apply below_drew1 | refine below_set ?_ GE157.out) | exact HB.out)))); have n2_ := Aside0.mk (blk_below (g := gb157) (o := .cells #[.int .i64 0, .int .i64 0, .slice none 0 0, .slice none 0 0] 25 (0, 0)) (by (with_reducible repeat (first | refine blk_drewN ?_ _ | refine blk_drew ?_ | refine blk_alloc ?_ _)); exact BK157.out) hb); have n3_ := Aside0.mk (below_step (by repeat (first | (with_reducible first | exact HB.out | apply below_alloc | apply pw_below_drewN | apply below_drew1 | refine below_set ?_ GE157.out) | exact HB.out)) hb); clear HO160; clear BK157; clear HB; clear HO163; clear HO166; have HO160 := n0_; have HO169 := n1_; have BK157 := n2_; have HB := n3_; clear n0_ n1_ n2_ n3_; clear hb ho11; obtain ⟨Ao12, co12, eo12⟩ := Kd.N_slice HO169.out; subst eo12; obtain ⟨Ao13, co13, eo13⟩ := Kd.R_slice HO160.out; subst eo13; have hcz14_0 : w10.cell? ⟨gb157, 0, none⟩ = some (.int .i64 0) := (blk_cell BK157.out 0).trans rfl; have hcz14_1 : w10.cell? ⟨gb157, 1, none⟩ = some (.int .i64 0) := (blk_cell BK157.out 1).trans rfl; have hcz14_2 : w10.cell? ⟨gb157, 2, none⟩ = some (.slice none 0 0) := (blk_cell BK157.out 2).trans rfl; have hcz14_3 : w10.cell? ⟨gb157, 3, none⟩ = some (.slice none 0 0) := (blk_cell BK157.out 3).trans rfl; have hfz14_0 := blk_frozen BK157.out 0; have hfz14_1 := blk_frozen BK157.out 1; have hfz14_2 := blk_frozen BK157.out 2; have hfz14_3 := blk_frozen BK157.out 3))
  refine bodyPost_ret (results_cell_row rfl _ _ gb157 25 #[.int .i64 1, .int .i64 1, .slice Ao13 y158.length co13, .slice Ao12 y167.length co12] (0, 0) _ rfl (by (with_reducible repeat (first | refine blk_drewN ?_ _ | refine blk_drew ?_ | refine blk_alloc ?_ _)); refine blk_put (cs := #[.int .i64 1, .int .i64 1, .slice Ao13 y158.length co13, .slice none 0 0]) ?_ 3 _ rfl; (with_reducible repeat (first | refine blk_drewN ?_ _ | refine blk_drew ?_ | refine blk_alloc ?_ _)); refine blk_put (cs := #[.int .i64 1, .int .i64 1, .slice none 0 0, .slice none 0 0]) ?_ 2 _ rfl; (with_reducible repeat (first | refine blk_drewN ?_ _ | refine blk_drew ?_ | refine blk_alloc ?_ _)); refine blk_put (cs := #[.int .i64 1, .int .i64 0, .slice none 0 0, .slice none 0 0]) ?_ 1 _ rfl; (with_reducible repeat (first | refine blk_drewN ?_ _ | refine blk_drew ?_ | refine blk_alloc ?_ _)); refine blk_put (cs := #[.int .i64 0, .int .i64 0, .slice none 0 0, .slice none 0 0]) ?_ 0 _ rfl; (with_reducible repeat (first | refine blk_drewN ?_ _ | refine blk_drew ?_ | refine blk_alloc ?_ _)); exact BK157.out) Try.underlying25 rfl (by kernel_rfl)) rfl ?_
  exact ⟨_, _, by first | rfl | (simp [errW_none, errW_some] <;> rfl) | (simp [*, errW_none, errW_some] <;> rfl), by (with_reducible repeat (first | apply Kd.R_alloc | apply Kd.R_drewN | apply Kd.R_drew)); exact Kd.R_mono (Kd.R_far (p := ⟨gb157, 3, none⟩) (Kd.R_far (p := ⟨gb157, 2, none⟩) (Kd.R_far (p := ⟨gb157, 1, none⟩) (Kd.R_far (p := ⟨gb157, 0, none⟩) (Kd.R_types HO160.out BK157.out (by decide)) (fun _ hk => hk.2) (.int .i64 1)) (fun _ hk => hk.2) (.int .i64 1)) (fun _ hk => hk.2) (.slice Ao13 y158.length co13)) (fun _ hk => hk.2) (.slice Ao12 y167.length co12)) (fun _ hk => hk.1.1), by (with_reducible repeat (first | apply Kd.N_alloc | apply Kd.N_drewN | apply Kd.N_drew)); exact Kd.N_mono (Kd.N_far (p := ⟨gb157, 3, none⟩) (Kd.N_far (p := ⟨gb157, 2, none⟩) (Kd.N_far (p := ⟨gb157, 1, none⟩) (Kd.N_far (p := ⟨gb157, 0, none⟩) (Kd.N_mono HO169.out (fun k_ hk => (⟨hk, hk.2.2⟩ : _ ∧ k_ ≠ gb157))) (fun _ hk => hk.2) (.int .i64 1)) (fun _ hk => hk.2) (.int .i64 1)) (fun _ hk => hk.2) (.slice Ao13 y158.length co13)) (fun _ hk => hk.2) (.slice Ao12 y167.length co12)) (fun _ hk => ⟨hk.1.1, hk.1.2.1⟩), by repeat (first | (with_reducible first | exact HB.out | apply below_alloc | apply pw_below_drewN | apply below_drew1 | refine below_set ?_ GE157.out) | exact HB.out)⟩
def gramaryelaw11_works.f (k : Nat)  : Option (Bool) := (gramaryelaw11_sample.f).bind fun bt170 => ((reach_Left.f bt170.1 bt170.2.1 bt170.2.2.1 bt170.2.2.2).bind fun bt178 => (if bt178.2 = 0 then ((gramaryebase_SameInts.f k bt178.1 (([0, 1] : List Int))).bind fun t185 => (if t185 = true then ((gramaryelaw11_sample.f).bind fun bt186 => ((reach_Way.f bt186.1 bt186.2.1 bt186.2.2.1 bt186.2.2.2 0).bind fun t194 => ((gramaryebase_SameInts.f k t194 (([0, 1, 0] : List Int))).bind fun t200 => (some t200)))) else (some false))) else (some false)))
theorem gramaryelaw11_works.mono : ∀ k, LeO (gramaryelaw11_works.f k ) (gramaryelaw11_works.f (k + 1) ) := by
  intro  k
  unfold gramaryelaw11_works.f
  repeat' first
      | (with_reducible exact gramaryebase_SameInts.mono _ _ _)
      | (with_reducible exact LeO.refl _)
      | (with_reducible exact LeO.none _)
      | (with_reducible refine LeO.ite ?_ ?_)
      | (with_reducible refine LeO.bind ?_ (fun _ => ?_))
      | exact gramaryebase_SameInts.mono _ _ _
      | exact LeO.none _
      | refine LeO.ite ?_ ?_
      | refine LeO.bind ?_ (fun _ => ?_)
set_option maxHeartbeats 8000000 in
set_option maxRecDepth 100000 in
theorem gramaryelaw11_works.calls (k : Nat)  (r : Bool) (w : World) (h : gramaryelaw11_works.f k  = some r) :
    Calls Try.prog 26 #[] w fun e w' => e = .returned (.bool r) ∧ Below w.heap.size w w' := by
  have HB := Aside0.mk (Below.refl w.heap.size w)
  have H : ((gramaryelaw11_sample.f).bind fun bt170 => ((reach_Left.f bt170.1 bt170.2.1 bt170.2.2.1 bt170.2.2.2).bind fun bt178 => (if bt178.2 = 0 then ((gramaryebase_SameInts.f k bt178.1 (([0, 1] : List Int))).bind fun t185 => (if t185 = true then ((gramaryelaw11_sample.f).bind fun bt186 => ((reach_Way.f bt186.1 bt186.2.1 bt186.2.2.1 bt186.2.2.2 0).bind fun t194 => ((gramaryebase_SameInts.f k t194 (([0, 1, 0] : List Int))).bind fun t200 => (some t200)))) else (some false))) else (some false)))) = some r := h
  clear h
  replace H := Option.bind_eq_some_iff.mp H
  obtain ⟨⟨t170, t171, t172, t175⟩, A10, H⟩ := H
  replace H : ((reach_Left.f t170 t171 t172 t175).bind fun bt178 => (if bt178.2 = 0 then ((gramaryebase_SameInts.f k bt178.1 (([0, 1] : List Int))).bind fun t185 => (if t185 = true then ((gramaryelaw11_sample.f).bind fun bt186 => ((reach_Way.f bt186.1 bt186.2.1 bt186.2.2.1 bt186.2.2.2 0).bind fun t194 => ((gramaryebase_SameInts.f k t194 (([0, 1, 0] : List Int))).bind fun t200 => (some t200)))) else (some false))) else (some false))) = some r := H
  have A1 := Aside0.mk A10
  clear A10
  replace H := Option.bind_eq_some_iff.mp H
  obtain ⟨⟨t178, t181⟩, A20, H⟩ := H
  replace H : (if t181 = 0 then ((gramaryebase_SameInts.f k t178 (([0, 1] : List Int))).bind fun t185 => (if t185 = true then ((gramaryelaw11_sample.f).bind fun bt186 => ((reach_Way.f bt186.1 bt186.2.1 bt186.2.2.1 bt186.2.2.2 0).bind fun t194 => ((gramaryebase_SameInts.f k t194 (([0, 1, 0] : List Int))).bind fun t200 => (some t200)))) else (some false))) else (some false)) = some r := H
  have A2 := Aside0.mk A20
  clear A20
  by_cases c3 : t181 = 0
  · rw [if_pos c3] at H
    have c3b0 : (t181 == 0) = true := beq_iff_eq.mpr c3
    have c3b1 : (t181 != 0) = false := bne_eq_false_iff_eq.mpr c3
    clear c3
    obtain ⟨y182, hy182⟩ : ∃ y_ : List Int, y_ = (([0, 1] : List Int)) := ⟨_, rfl⟩
    replace H : ((gramaryebase_SameInts.f k t178 y182).bind fun t185 => (if t185 = true then ((gramaryelaw11_sample.f).bind fun bt186 => ((reach_Way.f bt186.1 bt186.2.1 bt186.2.2.1 bt186.2.2.2 0).bind fun t194 => ((gramaryebase_SameInts.f k t194 (([0, 1, 0] : List Int))).bind fun t200 => (some t200)))) else (some false))) = some r := by first | (rw [hy182]; with_reducible exact H) | (have H2_ := (Option.bind_some _ _).symm.trans H; rw [hy182]; with_reducible exact H2_) | (have H2_ := (Option.bind_some _ _).symm.trans H; with_reducible exact H2_) | with_reducible exact H | (rw [hy182]; exact H) | exact H
    have Ny182 := Aside0.mk hy182
    clear hy182
    replace H := Option.bind_eq_some_iff.mp H
    obtain ⟨t185, A40, H⟩ := H
    replace H : (if t185 = true then ((gramaryelaw11_sample.f).bind fun bt186 => ((reach_Way.f bt186.1 bt186.2.1 bt186.2.2.1 bt186.2.2.2 0).bind fun t194 => ((gramaryebase_SameInts.f k t194 (([0, 1, 0] : List Int))).bind fun t200 => (some t200)))) else (some false)) = some r := H
    have A4 := Aside0.mk A40
    clear A40
    by_cases c5 : t185 = true
    · subst c5
      have H1 : ((gramaryelaw11_sample.f).bind fun bt186 => ((reach_Way.f bt186.1 bt186.2.1 bt186.2.2.1 bt186.2.2.2 0).bind fun t194 => ((gramaryebase_SameInts.f k t194 (([0, 1, 0] : List Int))).bind fun t200 => (some t200)))) = some r := by rw [if_pos rfl] at H; exact H
      clear H
      have H := H1
      clear H1
      replace H := Option.bind_eq_some_iff.mp H
      obtain ⟨⟨t186, t187, t188, t191⟩, A60, H⟩ := H
      replace H : ((reach_Way.f t186 t187 t188 t191 0).bind fun t194 => ((gramaryebase_SameInts.f k t194 (([0, 1, 0] : List Int))).bind fun t200 => (some t200))) = some r := H
      have A6 := Aside0.mk A60
      clear A60
      replace H := Option.bind_eq_some_iff.mp H
      obtain ⟨t194, A70, H⟩ := H
      replace H : ((gramaryebase_SameInts.f k t194 (([0, 1, 0] : List Int))).bind fun t200 => (some t200)) = some r := H
      have A7 := Aside0.mk A70
      clear A70
      obtain ⟨y197, hy197⟩ : ∃ y_ : List Int, y_ = (([0, 1, 0] : List Int)) := ⟨_, rfl⟩
      replace H : ((gramaryebase_SameInts.f k t194 y197).bind fun t200 => (some t200)) = some r := by first | (rw [hy197]; with_reducible exact H) | (have H2_ := (Option.bind_some _ _).symm.trans H; rw [hy197]; with_reducible exact H2_) | (have H2_ := (Option.bind_some _ _).symm.trans H; with_reducible exact H2_) | with_reducible exact H | (rw [hy197]; exact H) | exact H
      have Ny197 := Aside0.mk hy197
      clear hy197
      replace H := Option.bind_eq_some_iff.mp H
      obtain ⟨t200, A80, H⟩ := H
      replace H : (some t200) = some r := H
      have A8 := Aside0.mk A80
      clear A80
      obtain rfl := Option.some.inj H
      go_enter Try.func26, Try.ntmps26
      go_wp2_with (first | ((with_reducible refine gate_callee (f := 57) rfl ?_); refine goesL_ (some 4) rfl rfl Try.func57 (by kernel_rfl) rfl #[] rfl (by (try simp only [List.map_toArray, List.map_cons, List.map_nil]); first | done | rfl | (simp only [List.length_drop, List.length_take]; rfl)) ?_; (with_reducible refine (gramaryelaw11_sample.calls  t170 t171 t172 t175 _ A1.out).mono ?_); rintro e w9 ⟨v173, v176, rfl, ho0, ho1, hb⟩; refine ⟨_, rfl, ?_⟩; have n0_ := Aside0.mk (Kd.R_lower (Kd.R_mono (ok' := fun k_ => True) ho0 (fun _ hk_ => trivial)) (below_size (by repeat (first | (with_reducible first | exact HB.out | apply below_alloc | apply pw_below_drewN | apply below_drew1) | exact HB.out)))); have n1_ := Aside0.mk (Kd.N_lower (Kd.N_mono (ok' := fun k_ => some k_ ≠ (v173 : Value).ownBlock) ho1 (fun k_ hk_ => hk_.2)) (below_size (by repeat (first | (with_reducible first | exact HB.out | apply below_alloc | apply pw_below_drewN | apply below_drew1) | exact HB.out)))); have n2_ := Aside0.mk (below_step (by repeat (first | (with_reducible first | exact HB.out | apply below_alloc | apply pw_below_drewN | apply below_drew1) | exact HB.out)) hb); clear HB; have HO174 := n0_; have HO177 := n1_; have HB := n2_; clear n0_ n1_ n2_; (try clear hb); (try clear hb2); (try clear hk); (try clear hi); (try clear ho0); (try clear ho1); obtain ⟨Ao10, co10, eo10⟩ := Kd.R_slice HO174.out; subst eo10; obtain ⟨Ao11, co11, eo11⟩ := Kd.N_slice HO177.out; subst eo11) | ((with_reducible refine gate_callee (f := 29) rfl ?_); refine goesL_ (some 5) rfl rfl Try.func29 (by kernel_rfl) rfl #[.agg #[.int .i64 t170, .int .i64 t171, .slice Ao10 t172.length co10, .slice Ao11 t175.length co11]] rfl (by (try simp only [List.map_toArray, List.map_cons, List.map_nil]); first | done | rfl | (simp only [List.length_drop, List.length_take]; rfl)) ?_; (with_reducible refine (reach_Left.calls t170 t171 _ _ t172 _ _ t175 t178 t181 _ ?side1 ?side2 ?side3 ?side4 A2.out).mono ?_); (case side1 => repeat (first | exact (Kd.R_reads' HO174.out).2.2 | (with_reducible refine Kd.C_alloc ?_ _) | (with_reducible refine Kd.C_drewN ?_ _) | (with_reducible refine Kd.C_drew ?_))); (case side2 => exact (Kd.R_reads' HO174.out).2.1); (case side3 => repeat (first | exact (Kd.N_reads' HO177.out).2.2 | (with_reducible refine Kd.C_alloc ?_ _) | (with_reducible refine Kd.C_drewN ?_ _) | (with_reducible refine Kd.C_drew ?_))); (case side4 => exact (Kd.N_reads' HO177.out).2.1); rintro e w12 ⟨v179, rfl, ho0, hb⟩; refine ⟨_, rfl, ?_⟩; have n0_ := Aside0.mk (Kd.R_elder' (by (with_reducible repeat (first | apply Kd.R_alloc | apply Kd.R_drewN | apply Kd.R_drew)); exact HO174.out) (Kd.R_base ho0) hb); have n1_ := Aside0.mk (Kd.N_elder' (by (with_reducible repeat (first | apply Kd.N_alloc | apply Kd.N_drewN | apply Kd.N_drew)); exact HO177.out) (Kd.R_base ho0) hb); have n2_ := Aside0.mk (Kd.R_lower (Kd.R_new' ho0 (Kd.R_lt (by (with_reducible repeat (first | apply Kd.R_alloc | apply Kd.R_drewN | apply Kd.R_drew)); exact HO174.out))) (below_size (by repeat (first | (with_reducible first | exact HB.out | apply below_alloc | apply pw_below_drewN | apply below_drew1) | exact HB.out)))); have n3_ := Aside0.mk (below_step (by repeat (first | (with_reducible first | exact HB.out | apply below_alloc | apply pw_below_drewN | apply below_drew1) | exact HB.out)) hb); clear HO174; clear HO177; clear HB; have HO174 := n0_; have HO177 := n1_; have HO180 := n2_; have HB := n3_; clear n0_ n1_ n2_ n3_; (try clear hb); (try clear hb2); (try clear hk); (try clear hi); (try clear ho0)) | ((with_reducible refine gate_dst (N := 12) rfl ?_); (try (refine gate_guard (by rfl) ?_; dsimp only)); refine Kd.R_lit (Kd.int .i64) _ 3 ?hg (N := 12) ?hd (xs := ([0, 1] : List Int)) (inner := [.int .i64 0, .int .i64 1]) (ok := fun _ => True) (okp := fun _ => True) ?hr ?hp (fun _ hk => hk) trivial (Below.refl _ _) (Nat.le_refl _) (by simp) ?_; (case hd => rfl); (case hg => rfl); (case hr => first | (go_simp; done) | (go_simp; rfl)); (case hp => exact (Reps.one (show Kd.M (Kd.int .i64) _ _ _ 0 [.int .i64 0] from rfl) (Reps.one (show Kd.M (Kd.int .i64) _ _ _ 1 [.int .i64 1] from rfl) (Reps.none _ _)))); intro v183 w13 ho14 hb hg_ hnew_; clear hg_ hnew_; (first | rw [← Ny182.out] at ho14 | (simp only [Int.reduceToNat] at ho14; rw [← Ny182.out] at ho14)); have n0_ := Aside0.mk (Kd.R_elder' (by (with_reducible repeat (first | apply Kd.R_alloc | apply Kd.R_drewN | apply Kd.R_drew)); exact HO174.out) (Kd.R_base ho14) hb); have n1_ := Aside0.mk (Kd.N_elder' (by (with_reducible repeat (first | apply Kd.N_alloc | apply Kd.N_drewN | apply Kd.N_drew)); exact HO177.out) (Kd.R_base ho14) hb); have n2_ := Aside0.mk (Kd.R_elder' (by (with_reducible repeat (first | apply Kd.R_alloc | apply Kd.R_drewN | apply Kd.R_drew)); exact HO180.out) (Kd.R_base ho14) hb); have n3_ := Aside0.mk (Kd.R_lower (Kd.R_new' (Kd.R_new' ho14 (Kd.R_lt (by (with_reducible repeat (first | apply Kd.R_alloc | apply Kd.R_drewN | apply Kd.R_drew)); exact HO174.out))) (Kd.R_lt (by (with_reducible repeat (first | apply Kd.R_alloc | apply Kd.R_drewN | apply Kd.R_drew)); exact HO180.out))) (below_size (by repeat (first | (with_reducible first | exact HB.out | apply below_alloc | apply pw_below_drewN | apply below_drew1) | exact HB.out)))); have n4_ := Aside0.mk (below_step (by repeat (first | (with_reducible first | exact HB.out | apply below_alloc | apply pw_below_drewN | apply below_drew1) | exact HB.out)) hb); clear HO174; clear HO177; clear HO180; clear HB; have HO174 := n0_; have HO177 := n1_; have HO180 := n2_; have HO184 := n3_; have HB := n4_; clear n0_ n1_ n2_ n3_ n4_; clear hb ho14; obtain ⟨Ao15, co15, eo15⟩ := Kd.R_slice HO180.out; subst eo15; obtain ⟨Ao16, co16, eo16⟩ := Kd.R_slice HO184.out; subst eo16) | (go_at_call 14; (with_reducible refine (gramaryebase_SameInts.calls k _ _ t178 _ _ y182 true _ ?side1 ?side2 ?side3 ?side4 A4.out).mono ?_); (case side1 => repeat (first | exact (Kd.R_reads' HO180.out).2.2 | (with_reducible refine Kd.C_alloc ?_ _) | (with_reducible refine Kd.C_drewN ?_ _) | (with_reducible refine Kd.C_drew ?_))); (case side2 => exact (Kd.R_reads' HO180.out).2.1); (case side3 => repeat (first | exact (Kd.R_reads' HO184.out).2.2 | (with_reducible refine Kd.C_alloc ?_ _) | (with_reducible refine Kd.C_drewN ?_ _) | (with_reducible refine Kd.C_drew ?_))); (case side4 => exact (Kd.R_reads' HO184.out).2.1); rintro e w' ⟨rfl, ⟨nd, rfl⟩⟩) | (go_at_call 57; (with_reducible refine (gramaryelaw11_sample.calls  t186 t187 t188 t191 _ A6.out).mono ?_); rintro e w17 ⟨v189, v192, rfl, ho0, ho1, hb⟩; have n0_ := Aside0.mk (Kd.R_elder' (by (with_reducible repeat (first | apply Kd.R_alloc | apply Kd.R_drewN | apply Kd.R_drew)); exact HO174.out) (Kd.R_base ho0) hb); have n1_ := Aside0.mk (Kd.N_mono (Kd.N_told (Kd.N_told (Kd.N_old (by (with_reducible repeat (first | apply Kd.N_alloc | apply Kd.N_drewN | apply Kd.N_drew)); exact HO177.out) hb) (Kd.R_base ho0)) (Kd.N_base ho1)) (fun _ h_ => h_.1)); have n2_ := Aside0.mk (Kd.R_elder' (by (with_reducible repeat (first | apply Kd.R_alloc | apply Kd.R_drewN | apply Kd.R_drew)); exact HO180.out) (Kd.R_base ho0) hb); have n3_ := Aside0.mk (Kd.R_elder' (by (with_reducible repeat (first | apply Kd.R_alloc | apply Kd.R_drewN | apply Kd.R_drew)); exact HO184.out) (Kd.R_base ho0) hb); have n4_ := Aside0.mk (Kd.R_lower (Kd.R_new' (Kd.R_new' (Kd.R_new' (Kd.R_mono (ok' := fun k_ => True) ho0 (fun _ hk_ => trivial)) (Kd.R_lt (by (with_reducible repeat (first | apply Kd.R_alloc | apply Kd.R_drewN | apply Kd.R_drew)); exact HO174.out))) (Kd.R_lt (by (with_reducible repeat (first | apply Kd.R_alloc | apply Kd.R_drewN | apply Kd.R_drew)); exact HO180.out))) (Kd.R_lt (by (with_reducible repeat (first | apply Kd.R_alloc | apply Kd.R_drewN | apply Kd.R_drew)); exact HO184.out))) (below_size (by repeat (first | (with_reducible first | exact HB.out | apply below_alloc | apply pw_below_drewN | apply below_drew1) | exact HB.out)))); have n5_ := Aside0.mk (Kd.N_lower (Kd.N_mono (ok' := fun k_ => some k_ ≠ (v189 : Value).ownBlock ∧ some k_ ≠ (.slice Ao10 t172.length co10 : Value).ownBlock ∧ some k_ ≠ (.slice Ao11 t175.length co11 : Value).ownBlock ∧ some k_ ≠ (.slice Ao15 t178.length co15 : Value).ownBlock ∧ some k_ ≠ (.slice Ao16 y182.length co16 : Value).ownBlock) ho1 (fun k_ hk_ => ⟨hk_.2, (Kd.fresh' (Kd.R_lt (by (with_reducible repeat (first | apply Kd.R_alloc | apply Kd.R_drewN | apply Kd.R_drew)); exact HO174.out)) k_ hk_.1), (Kd.fresh' (Kd.N_lt (by (with_reducible repeat (first | apply Kd.N_alloc | apply Kd.N_drewN | apply Kd.N_drew)); exact HO177.out)) k_ hk_.1), (Kd.fresh' (Kd.R_lt (by (with_reducible repeat (first | apply Kd.R_alloc | apply Kd.R_drewN | apply Kd.R_drew)); exact HO180.out)) k_ hk_.1), (Kd.fresh' (Kd.R_lt (by (with_reducible repeat (first | apply Kd.R_alloc | apply Kd.R_drewN | apply Kd.R_drew)); exact HO184.out)) k_ hk_.1)⟩)) (below_size (by repeat (first | (with_reducible first | exact HB.out | apply below_alloc | apply pw_below_drewN | apply below_drew1) | exact HB.out)))); have n6_ := Aside0.mk (below_step (by repeat (first | (with_reducible first | exact HB.out | apply below_alloc | apply pw_below_drewN | apply below_drew1) | exact HB.out)) hb); clear HO174; clear HO177; clear HO180; clear HO184; clear HB; have HO174 := n0_; have HO177 := n1_; have HO180 := n2_; have HO184 := n3_; have HO190 := n4_; have HO193 := n5_; have HB := n6_; clear n0_ n1_ n2_ n3_ n4_ n5_ n6_; (try clear hb); (try clear hb2); (try clear hk); (try clear hi); (try clear ho0); (try clear ho1); obtain ⟨Ao18, co18, eo18⟩ := Kd.R_slice HO190.out; subst eo18; obtain ⟨Ao19, co19, eo19⟩ := Kd.N_slice HO193.out; subst eo19) | (go_at_call 24; (with_reducible refine (reach_Way.calls t186 t187 _ _ t188 _ _ t191 0 t194 _ ?side1 ?side2 ?side3 ?side4 A7.out).mono ?_); (case side1 => repeat (first | exact (Kd.R_reads' HO190.out).2.2 | (with_reducible refine Kd.C_alloc ?_ _) | (with_reducible refine Kd.C_drewN ?_ _) | (with_reducible refine Kd.C_drew ?_))); (case side2 => exact (Kd.R_reads' HO190.out).2.1); (case side3 => repeat (first | exact (Kd.N_reads' HO193.out).2.2 | (with_reducible refine Kd.C_alloc ?_ _) | (with_reducible refine Kd.C_drewN ?_ _) | (with_reducible refine Kd.C_drew ?_))); (case side4 => exact (Kd.N_reads' HO193.out).2.1); rintro e w20 ⟨v195, rfl, ho0, hb⟩; have n0_ := Aside0.mk (Kd.R_elder' (by (with_reducible repeat (first | apply Kd.R_alloc | apply Kd.R_drewN | apply Kd.R_drew)); exact HO174.out) (Kd.R_base ho0) hb); have n1_ := Aside0.mk (Kd.N_elder' (by (with_reducible repeat (first | apply Kd.N_alloc | apply Kd.N_drewN | apply Kd.N_drew)); exact HO177.out) (Kd.R_base ho0) hb); have n2_ := Aside0.mk (Kd.R_elder' (by (with_reducible repeat (first | apply Kd.R_alloc | apply Kd.R_drewN | apply Kd.R_drew)); exact HO180.out) (Kd.R_base ho0) hb); have n3_ := Aside0.mk (Kd.R_elder' (by (with_reducible repeat (first | apply Kd.R_alloc | apply Kd.R_drewN | apply Kd.R_drew)); exact HO184.out) (Kd.R_base ho0) hb); have n4_ := Aside0.mk (Kd.R_elder' (by (with_reducible repeat (first | apply Kd.R_alloc | apply Kd.R_drewN | apply Kd.R_drew)); exact HO190.out) (Kd.R_base ho0) hb); have n5_ := Aside0.mk (Kd.N_elder' (by (with_reducible repeat (first | apply Kd.N_alloc | apply Kd.N_drewN | apply Kd.N_drew)); exact HO193.out) (Kd.R_base ho0) hb); have n6_ := Aside0.mk (Kd.R_lower (Kd.R_new' (Kd.R_new' (Kd.R_new' (Kd.R_new' ho0 (Kd.R_lt (by (with_reducible repeat (first | apply Kd.R_alloc | apply Kd.R_drewN | apply Kd.R_drew)); exact HO174.out))) (Kd.R_lt (by (with_reducible repeat (first | apply Kd.R_alloc | apply Kd.R_drewN | apply Kd.R_drew)); exact HO180.out))) (Kd.R_lt (by (with_reducible repeat (first | apply Kd.R_alloc | apply Kd.R_drewN | apply Kd.R_drew)); exact HO184.out))) (Kd.R_lt (by (with_reducible repeat (first | apply Kd.R_alloc | apply Kd.R_drewN | apply Kd.R_drew)); exact HO190.out))) (below_size (by repeat (first | (with_reducible first | exact HB.out | apply below_alloc | apply pw_below_drewN | apply below_drew1) | exact HB.out)))); have n7_ := Aside0.mk (below_step (by repeat (first | (with_reducible first | exact HB.out | apply below_alloc | apply pw_below_drewN | apply below_drew1) | exact HB.out)) hb); clear HO174; clear HO177; clear HO180; clear HO184; clear HO190; clear HO193; clear HB; have HO174 := n0_; have HO177 := n1_; have HO180 := n2_; have HO184 := n3_; have HO190 := n4_; have HO193 := n5_; have HO196 := n6_; have HB := n7_; clear n0_ n1_ n2_ n3_ n4_ n5_ n6_ n7_; (try clear hb); (try clear hb2); (try clear hk); (try clear hi); (try clear ho0)) | ((with_reducible refine gate_dst (N := 18) rfl ?_); (try (refine gate_guard (by rfl) ?_; dsimp only)); refine Kd.R_lit (Kd.int .i64) _ 3 ?hg (N := 18) ?hd (xs := ([0, 1, 0] : List Int)) (inner := [.int .i64 0, .int .i64 1, .int .i64 0]) (ok := fun _ => True) (okp := fun _ => True) ?hr ?hp (fun _ hk => hk) trivial (Below.refl _ _) (Nat.le_refl _) (by simp) ?_; (case hd => rfl); (case hg => rfl); (case hr => first | (go_simp; done) | (go_simp; rfl)); (case hp => exact (Reps.one (show Kd.M (Kd.int .i64) _ _ _ 0 [.int .i64 0] from rfl) (Reps.one (show Kd.M (Kd.int .i64) _ _ _ 1 [.int .i64 1] from rfl) (Reps.one (show Kd.M (Kd.int .i64) _ _ _ 0 [.int .i64 0] from rfl) (Reps.none _ _))))); intro v198 w21 ho22 hb hg_ hnew_; clear hg_ hnew_; (first | rw [← Ny197.out] at ho22 | (simp only [Int.reduceToNat] at ho22; rw [← Ny197.out] at ho22)); have n0_ := Aside0.mk (Kd.R_elder' (by (with_reducible repeat (first | apply Kd.R_alloc | apply Kd.R_drewN | apply Kd.R_drew)); exact HO174.out) (Kd.R_base ho22) hb); have n1_ := Aside0.mk (Kd.N_elder' (by (with_reducible repeat (first | apply Kd.N_alloc | apply Kd.N_drewN | apply Kd.N_drew)); exact HO177.out) (Kd.R_base ho22) hb); have n2_ := Aside0.mk (Kd.R_elder' (by (with_reducible repeat (first | apply Kd.R_alloc | apply Kd.R_drewN | apply Kd.R_drew)); exact HO180.out) (Kd.R_base ho22) hb); have n3_ := Aside0.mk (Kd.R_elder' (by (with_reducible repeat (first | apply Kd.R_alloc | apply Kd.R_drewN | apply Kd.R_drew)); exact HO184.out) (Kd.R_base ho22) hb); have n4_ := Aside0.mk (Kd.R_elder' (by (with_reducible repeat (first | apply Kd.R_alloc | apply Kd.R_drewN | apply Kd.R_drew)); exact HO190.out) (Kd.R_base ho22) hb); have n5_ := Aside0.mk (Kd.N_elder' (by (with_reducible repeat (first | apply Kd.N_alloc | apply Kd.N_drewN | apply Kd.N_drew)); exact HO193.out) (Kd.R_base ho22) hb); have n6_ := Aside0.mk (Kd.R_elder' (by (with_reducible repeat (first | apply Kd.R_alloc | apply Kd.R_drewN | apply Kd.R_drew)); exact HO196.out) (Kd.R_base ho22) hb); have n7_ := Aside0.mk (Kd.R_lower (Kd.R_new' (Kd.R_new' (Kd.R_new' (Kd.R_new' (Kd.R_new' ho22 (Kd.R_lt (by (with_reducible repeat (first | apply Kd.R_alloc | apply Kd.R_drewN | apply Kd.R_drew)); exact HO174.out))) (Kd.R_lt (by (with_reducible repeat (first | apply Kd.R_alloc | apply Kd.R_drewN | apply Kd.R_drew)); exact HO180.out))) (Kd.R_lt (by (with_reducible repeat (first | apply Kd.R_alloc | apply Kd.R_drewN | apply Kd.R_drew)); exact HO184.out))) (Kd.R_lt (by (with_reducible repeat (first | apply Kd.R_alloc | apply Kd.R_drewN | apply Kd.R_drew)); exact HO190.out))) (Kd.R_lt (by (with_reducible repeat (first | apply Kd.R_alloc | apply Kd.R_drewN | apply Kd.R_drew)); exact HO196.out))) (below_size (by repeat (first | (with_reducible first | exact HB.out | apply below_alloc | apply pw_below_drewN | apply below_drew1) | exact HB.out)))); have n8_ := Aside0.mk (below_step (by repeat (first | (with_reducible first | exact HB.out | apply below_alloc | apply pw_below_drewN | apply below_drew1) | exact HB.out)) hb); clear HO174; clear HO177; clear HO180; clear HO184; clear HO190; clear HO193; clear HO196; clear HB; have HO174 := n0_; have HO177 := n1_; have HO180 := n2_; have HO184 := n3_; have HO190 := n4_; have HO193 := n5_; have HO196 := n6_; have HO199 := n7_; have HB := n8_; clear n0_ n1_ n2_ n3_ n4_ n5_ n6_ n7_ n8_; clear hb ho22; obtain ⟨Ao23, co23, eo23⟩ := Kd.R_slice HO196.out; subst eo23; obtain ⟨Ao24, co24, eo24⟩ := Kd.R_slice HO199.out; subst eo24) | (go_at_call 14; (with_reducible refine (gramaryebase_SameInts.calls k _ _ t194 _ _ y197 t200 _ ?side1 ?side2 ?side3 ?side4 A8.out).mono ?_); (case side1 => repeat (first | exact (Kd.R_reads' HO196.out).2.2 | (with_reducible refine Kd.C_alloc ?_ _) | (with_reducible refine Kd.C_drewN ?_ _) | (with_reducible refine Kd.C_drew ?_))); (case side2 => exact (Kd.R_reads' HO196.out).2.1); (case side3 => repeat (first | exact (Kd.R_reads' HO199.out).2.2 | (with_reducible refine Kd.C_alloc ?_ _) | (with_reducible refine Kd.C_drewN ?_ _) | (with_reducible refine Kd.C_drew ?_))); (case side4 => exact (Kd.R_reads' HO199.out).2.1); rintro e w' ⟨rfl, ⟨nd, rfl⟩⟩))
      go_ret
      exact ⟨by first | rfl | (simp [errW_none, errW_some] <;> rfl) | (simp [*, errW_none, errW_some] <;> rfl), by repeat (first | (with_reducible first | exact HB.out | apply below_alloc | apply pw_below_drewN | apply below_drew1) | exact HB.out)⟩
    · replace c5 := Bool.eq_false_iff.mpr c5
      subst c5
      have H1 : (some false) = some r := by rw [if_neg (show ¬ (false = true) by decide)] at H; exact H
      clear H
      have H := H1
      clear H1
      obtain rfl := Option.some.inj H
      go_enter Try.func26, Try.ntmps26
      go_wp2_with (first | ((with_reducible refine gate_callee (f := 57) rfl ?_); refine goesL_ (some 4) rfl rfl Try.func57 (by kernel_rfl) rfl #[] rfl (by (try simp only [List.map_toArray, List.map_cons, List.map_nil]); first | done | rfl | (simp only [List.length_drop, List.length_take]; rfl)) ?_; (with_reducible refine (gramaryelaw11_sample.calls  t170 t171 t172 t175 _ A1.out).mono ?_); rintro e w25 ⟨v173, v176, rfl, ho0, ho1, hb⟩; refine ⟨_, rfl, ?_⟩; have n0_ := Aside0.mk (Kd.R_lower (Kd.R_mono (ok' := fun k_ => True) ho0 (fun _ hk_ => trivial)) (below_size (by repeat (first | (with_reducible first | exact HB.out | apply below_alloc | apply pw_below_drewN | apply below_drew1) | exact HB.out)))); have n1_ := Aside0.mk (Kd.N_lower (Kd.N_mono (ok' := fun k_ => some k_ ≠ (v173 : Value).ownBlock) ho1 (fun k_ hk_ => hk_.2)) (below_size (by repeat (first | (with_reducible first | exact HB.out | apply below_alloc | apply pw_below_drewN | apply below_drew1) | exact HB.out)))); have n2_ := Aside0.mk (below_step (by repeat (first | (with_reducible first | exact HB.out | apply below_alloc | apply pw_below_drewN | apply below_drew1) | exact HB.out)) hb); clear HB; have HO174 := n0_; have HO177 := n1_; have HB := n2_; clear n0_ n1_ n2_; (try clear hb); (try clear hb2); (try clear hk); (try clear hi); (try clear ho0); (try clear ho1); obtain ⟨Ao26, co26, eo26⟩ := Kd.R_slice HO174.out; subst eo26; obtain ⟨Ao27, co27, eo27⟩ := Kd.N_slice HO177.out; subst eo27) | ((with_reducible refine gate_callee (f := 29) rfl ?_); refine goesL_ (some 5) rfl rfl Try.func29 (by kernel_rfl) rfl #[.agg #[.int .i64 t170, .int .i64 t171, .slice Ao26 t172.length co26, .slice Ao27 t175.length co27]] rfl (by (try simp only [List.map_toArray, List.map_cons, List.map_nil]); first | done | rfl | (simp only [List.length_drop, List.length_take]; rfl)) ?_; (with_reducible refine (reach_Left.calls t170 t171 _ _ t172 _ _ t175 t178 t181 _ ?side1 ?side2 ?side3 ?side4 A2.out).mono ?_); (case side1 => repeat (first | exact (Kd.R_reads' HO174.out).2.2 | (with_reducible refine Kd.C_alloc ?_ _) | (with_reducible refine Kd.C_drewN ?_ _) | (with_reducible refine Kd.C_drew ?_))); (case side2 => exact (Kd.R_reads' HO174.out).2.1); (case side3 => repeat (first | exact (Kd.N_reads' HO177.out).2.2 | (with_reducible refine Kd.C_alloc ?_ _) | (with_reducible refine Kd.C_drewN ?_ _) | (with_reducible refine Kd.C_drew ?_))); (case side4 => exact (Kd.N_reads' HO177.out).2.1); rintro e w28 ⟨v179, rfl, ho0, hb⟩; refine ⟨_, rfl, ?_⟩; have n0_ := Aside0.mk (Kd.R_elder' (by (with_reducible repeat (first | apply Kd.R_alloc | apply Kd.R_drewN | apply Kd.R_drew)); exact HO174.out) (Kd.R_base ho0) hb); have n1_ := Aside0.mk (Kd.N_elder' (by (with_reducible repeat (first | apply Kd.N_alloc | apply Kd.N_drewN | apply Kd.N_drew)); exact HO177.out) (Kd.R_base ho0) hb); have n2_ := Aside0.mk (Kd.R_lower (Kd.R_new' ho0 (Kd.R_lt (by (with_reducible repeat (first | apply Kd.R_alloc | apply Kd.R_drewN | apply Kd.R_drew)); exact HO174.out))) (below_size (by repeat (first | (with_reducible first | exact HB.out | apply below_alloc | apply pw_below_drewN | apply below_drew1) | exact HB.out)))); have n3_ := Aside0.mk (below_step (by repeat (first | (with_reducible first | exact HB.out | apply below_alloc | apply pw_below_drewN | apply below_drew1) | exact HB.out)) hb); clear HO174; clear HO177; clear HB; have HO174 := n0_; have HO177 := n1_; have HO180 := n2_; have HB := n3_; clear n0_ n1_ n2_ n3_; (try clear hb); (try clear hb2); (try clear hk); (try clear hi); (try clear ho0)) | ((with_reducible refine gate_dst (N := 12) rfl ?_); (try (refine gate_guard (by rfl) ?_; dsimp only)); refine Kd.R_lit (Kd.int .i64) _ 3 ?hg (N := 12) ?hd (xs := ([0, 1] : List Int)) (inner := [.int .i64 0, .int .i64 1]) (ok := fun _ => True) (okp := fun _ => True) ?hr ?hp (fun _ hk => hk) trivial (Below.refl _ _) (Nat.le_refl _) (by simp) ?_; (case hd => rfl); (case hg => rfl); (case hr => first | (go_simp; done) | (go_simp; rfl)); (case hp => exact (Reps.one (show Kd.M (Kd.int .i64) _ _ _ 0 [.int .i64 0] from rfl) (Reps.one (show Kd.M (Kd.int .i64) _ _ _ 1 [.int .i64 1] from rfl) (Reps.none _ _)))); intro v183 w29 ho30 hb hg_ hnew_; clear hg_ hnew_; (first | rw [← Ny182.out] at ho30 | (simp only [Int.reduceToNat] at ho30; rw [← Ny182.out] at ho30)); have n0_ := Aside0.mk (Kd.R_elder' (by (with_reducible repeat (first | apply Kd.R_alloc | apply Kd.R_drewN | apply Kd.R_drew)); exact HO174.out) (Kd.R_base ho30) hb); have n1_ := Aside0.mk (Kd.N_elder' (by (with_reducible repeat (first | apply Kd.N_alloc | apply Kd.N_drewN | apply Kd.N_drew)); exact HO177.out) (Kd.R_base ho30) hb); have n2_ := Aside0.mk (Kd.R_elder' (by (with_reducible repeat (first | apply Kd.R_alloc | apply Kd.R_drewN | apply Kd.R_drew)); exact HO180.out) (Kd.R_base ho30) hb); have n3_ := Aside0.mk (Kd.R_lower (Kd.R_new' (Kd.R_new' ho30 (Kd.R_lt (by (with_reducible repeat (first | apply Kd.R_alloc | apply Kd.R_drewN | apply Kd.R_drew)); exact HO174.out))) (Kd.R_lt (by (with_reducible repeat (first | apply Kd.R_alloc | apply Kd.R_drewN | apply Kd.R_drew)); exact HO180.out))) (below_size (by repeat (first | (with_reducible first | exact HB.out | apply below_alloc | apply pw_below_drewN | apply below_drew1) | exact HB.out)))); have n4_ := Aside0.mk (below_step (by repeat (first | (with_reducible first | exact HB.out | apply below_alloc | apply pw_below_drewN | apply below_drew1) | exact HB.out)) hb); clear HO174; clear HO177; clear HO180; clear HB; have HO174 := n0_; have HO177 := n1_; have HO180 := n2_; have HO184 := n3_; have HB := n4_; clear n0_ n1_ n2_ n3_ n4_; clear hb ho30; obtain ⟨Ao31, co31, eo31⟩ := Kd.R_slice HO180.out; subst eo31; obtain ⟨Ao32, co32, eo32⟩ := Kd.R_slice HO184.out; subst eo32) | (go_at_call 14; (with_reducible refine (gramaryebase_SameInts.calls k _ _ t178 _ _ y182 false _ ?side1 ?side2 ?side3 ?side4 A4.out).mono ?_); (case side1 => repeat (first | exact (Kd.R_reads' HO180.out).2.2 | (with_reducible refine Kd.C_alloc ?_ _) | (with_reducible refine Kd.C_drewN ?_ _) | (with_reducible refine Kd.C_drew ?_))); (case side2 => exact (Kd.R_reads' HO180.out).2.1); (case side3 => repeat (first | exact (Kd.R_reads' HO184.out).2.2 | (with_reducible refine Kd.C_alloc ?_ _) | (with_reducible refine Kd.C_drewN ?_ _) | (with_reducible refine Kd.C_drew ?_))); (case side4 => exact (Kd.R_reads' HO184.out).2.1); rintro e w' ⟨rfl, ⟨nd, rfl⟩⟩))
      go_ret
      exact ⟨by first | rfl | (simp [errW_none, errW_some] <;> rfl) | (simp [*, errW_none, errW_some] <;> rfl), by repeat (first | (with_reducible first | exact HB.out | apply below_alloc | apply pw_below_drewN | apply below_drew1) | exact HB.out)⟩
  · rw [if_neg c3] at H
    have c3b0 : (t181 == 0) = false := beq_eq_false_iff_ne.mpr c3
    have c3b1 : (t181 != 0) = true := bne_iff_ne.mpr c3
    obtain rfl := Option.some.inj H
    go_enter Try.func26, Try.ntmps26
    go_wp2_with (first | ((with_reducible refine gate_callee (f := 57) rfl ?_); refine goesL_ (some 4) rfl rfl Try.func57 (by kernel_rfl) rfl #[] rfl (by (try simp only [List.map_toArray, List.map_cons, List.map_nil]); first | done | rfl | (simp only [List.length_drop, List.length_take]; rfl)) ?_; (with_reducible refine (gramaryelaw11_sample.calls  t170 t171 t172 t175 _ A1.out).mono ?_); rintro e w33 ⟨v173, v176, rfl, ho0, ho1, hb⟩; refine ⟨_, rfl, ?_⟩; have n0_ := Aside0.mk (Kd.R_lower (Kd.R_mono (ok' := fun k_ => True) ho0 (fun _ hk_ => trivial)) (below_size (by repeat (first | (with_reducible first | exact HB.out | apply below_alloc | apply pw_below_drewN | apply below_drew1) | exact HB.out)))); have n1_ := Aside0.mk (Kd.N_lower (Kd.N_mono (ok' := fun k_ => some k_ ≠ (v173 : Value).ownBlock) ho1 (fun k_ hk_ => hk_.2)) (below_size (by repeat (first | (with_reducible first | exact HB.out | apply below_alloc | apply pw_below_drewN | apply below_drew1) | exact HB.out)))); have n2_ := Aside0.mk (below_step (by repeat (first | (with_reducible first | exact HB.out | apply below_alloc | apply pw_below_drewN | apply below_drew1) | exact HB.out)) hb); clear HB; have HO174 := n0_; have HO177 := n1_; have HB := n2_; clear n0_ n1_ n2_; (try clear hb); (try clear hb2); (try clear hk); (try clear hi); (try clear ho0); (try clear ho1); obtain ⟨Ao34, co34, eo34⟩ := Kd.R_slice HO174.out; subst eo34; obtain ⟨Ao35, co35, eo35⟩ := Kd.N_slice HO177.out; subst eo35) | ((with_reducible refine gate_callee (f := 29) rfl ?_); refine goesL_ (some 5) rfl rfl Try.func29 (by kernel_rfl) rfl #[.agg #[.int .i64 t170, .int .i64 t171, .slice Ao34 t172.length co34, .slice Ao35 t175.length co35]] rfl (by (try simp only [List.map_toArray, List.map_cons, List.map_nil]); first | done | rfl | (simp only [List.length_drop, List.length_take]; rfl)) ?_; (with_reducible refine (reach_Left.calls t170 t171 _ _ t172 _ _ t175 t178 t181 _ ?side1 ?side2 ?side3 ?side4 A2.out).mono ?_); (case side1 => repeat (first | exact (Kd.R_reads' HO174.out).2.2 | (with_reducible refine Kd.C_alloc ?_ _) | (with_reducible refine Kd.C_drewN ?_ _) | (with_reducible refine Kd.C_drew ?_))); (case side2 => exact (Kd.R_reads' HO174.out).2.1); (case side3 => repeat (first | exact (Kd.N_reads' HO177.out).2.2 | (with_reducible refine Kd.C_alloc ?_ _) | (with_reducible refine Kd.C_drewN ?_ _) | (with_reducible refine Kd.C_drew ?_))); (case side4 => exact (Kd.N_reads' HO177.out).2.1); rintro e w36 ⟨v179, rfl, ho0, hb⟩; refine ⟨_, rfl, ?_⟩; have n0_ := Aside0.mk (Kd.R_elder' (by (with_reducible repeat (first | apply Kd.R_alloc | apply Kd.R_drewN | apply Kd.R_drew)); exact HO174.out) (Kd.R_base ho0) hb); have n1_ := Aside0.mk (Kd.N_elder' (by (with_reducible repeat (first | apply Kd.N_alloc | apply Kd.N_drewN | apply Kd.N_drew)); exact HO177.out) (Kd.R_base ho0) hb); have n2_ := Aside0.mk (Kd.R_lower (Kd.R_new' ho0 (Kd.R_lt (by (with_reducible repeat (first | apply Kd.R_alloc | apply Kd.R_drewN | apply Kd.R_drew)); exact HO174.out))) (below_size (by repeat (first | (with_reducible first | exact HB.out | apply below_alloc | apply pw_below_drewN | apply below_drew1) | exact HB.out)))); have n3_ := Aside0.mk (below_step (by repeat (first | (with_reducible first | exact HB.out | apply below_alloc | apply pw_below_drewN | apply below_drew1) | exact HB.out)) hb); clear HO174; clear HO177; clear HB; have HO174 := n0_; have HO177 := n1_; have HO180 := n2_; have HB := n3_; clear n0_ n1_ n2_ n3_; (try clear hb); (try clear hb2); (try clear hk); (try clear hi); (try clear ho0)))
    go_ret
    exact ⟨by first | rfl | (simp [errW_none, errW_some] <;> rfl) | (simp [*, errW_none, errW_some] <;> rfl), by repeat (first | (with_reducible first | exact HB.out | apply below_alloc | apply pw_below_drewN | apply below_drew1) | exact HB.out)⟩
def allRow (n : Int) : List S59 → List (List Int) → List (List Int)
  | [], g => g
  | s :: r, g => allRow n r (if s.f0 = true then g else addF g n s.f1)
def allF : List S51 → List (List Int) → List (List Int)
  | [], g => g
  | p :: r, g => allF r (allRow p.f0 p.f1 g)
set_option maxHeartbeats 4000000 in
set_option maxRecDepth 100000 in
theorem reach_all_calls (toks look : Int) (A2 : Option Addr) (c2 : Nat) (o : List Int) (A3 : Option Addr) (c3 : Nat) (L : List S51) (w : World)
    (r2 : Kd.C (Kd.int .i64) w A2 o.length o) (l2 : o.length ≤ c2) (r3 : Kd.C k51 w A3 L.length L) (l3 : L.length ≤ c3) (hmay : bnf_mayB toks look o L = 0) :
    Calls Try.prog 59 #[.agg #[.int .i64 toks, .int .i64 look, .slice A2 o.length c2, .slice A3 L.length c3]] w
      fun e w' => ∃ g, e = .returned (.slice (some ⟨g, 0, none⟩) o.length o.length) ∧ Steps w' (fun k => w.heap.size ≤ k) g (allF L (List.replicate o.length [])) ∧ Below w.heap.size w w' := by
  have hk := bnf_may_ok hmay
  have hmk := fun W => run_make_row' (P := Try.prog) 69 22 (.slice none 0 0) 24 Try.underlying69 steps_info rfl .i64 .i64 o.length (by omega) (by omega) W
  have hL2 : L.length ≤ 2000 := hk.2.2.1
  have hO2 : o.length ≤ 500 := hk.2.1
  have HR3 := Aside0.mk r3
  have HK := Aside0.mk hk
  clear r2 l2 r3 l3 hmay hk
  obtain ⟨fin, hfin⟩ : ∃ fin, fin = allF L (List.replicate o.length []) := ⟨_, rfl⟩
  rw [← hfin]
  have HFIN := Aside0.mk hfin
  clear hfin
  go_enter Try.func59, Try.ntmps59
  go_wp2_with fail
  obtain ⟨w1, hw1⟩ : ∃ w1, w1 = (w.alloc (.cells #[.int .i64 toks, .int .i64 look, .slice A2 o.length c2, .slice A3 L.length c3] 25)).alloc (.cells (madeCells #[.slice none 0 0] o.length) 22) := ⟨_, rfl⟩
  have hb1 : Below w.heap.size w w1 := by rw [hw1]; exact below_alloc (below_alloc (Below.refl _ _) _) _
  have HX := Aside0.mk (show RunW w w1 (w.heap.size + 1) (List.replicate o.length []) (fun _ => False) from by
    refine ⟨fun k => k = w.heap.size + 1, ?_, fun k hk => by omega, fun k hk e => hk, hb1⟩
    · have h := Steps.made (w.alloc (.cells #[.int .i64 toks, .int .i64 look, .slice A2 o.length c2, .slice A3 L.length c3] 25)) o.length (fun k => k = w.heap.size + 1) (by simp)
      rw [show (w.alloc (.cells #[.int .i64 toks, .int .i64 look, .slice A2 o.length c2, .slice A3 L.length c3] 25)).heap.size = w.heap.size + 1 by simp] at h
      rw [hw1]; exact h)
  try rw [← hw1]
  clear hw1 hb1
  go_loopg [15] L.length (fun gg v15 wr => ∃ (kk : Nat) (cur : List (List Int)), kk ≤ L.length ∧ L.length - kk ≤ gg ∧ v15 = .int .i64 kk ∧ Aside0 (allF (L.drop kk) cur = fin) ∧ Aside0 (Rows (500 * kk) cur) ∧ cur.length = o.length ∧ Aside0 (RunW w wr (w.heap.size + 1) cur (fun _ => False)))
  case atStart => exact ⟨0, _, Nat.zero_le _, by omega, rfl, ⟨by rw [List.drop_zero]; exact HFIN.out.symm⟩, ⟨Rows.init _⟩, by simp, HX⟩
  case round =>
    clear HX HFIN hmk
    obtain ⟨kk, cur, hkk, hg, rfl, HF, HRW, hcl, HX⟩ := hrel
    by_cases hlt : kk < L.length
    · have hltz : (kk : Int) < (L.length : Int) := by omega
      obtain ⟨ad, cs, hA, hcl2, hK, hcell⟩ := Kd.C_get HR3.out z51 (kk : Int) (by omega) (by omega)
      have hx : L.getD (kk : Int).toNat z51 = L[kk] := by rw [Int.toNat_natCast, List.getD_eq_getElem?_getD, List.getElem?_eq_getElem hlt]; rfl
      rw [hx] at hK
      obtain ⟨A1, c1, rfl, l1, r1⟩ := k51_open hK
      have hc0 : wr.cell? (ad.add (kk * 2)) = some (.int .i64 L[kk].f0) := by have := pw_cell_below HX.out.lower (hcell 0 _ rfl); rwa [Int.toNat_natCast, Nat.add_zero] at this
      have hc1 : wr.cell? ⟨(ad.add (kk * 2)).block, (ad.add (kk * 2)).off + 1, none⟩ = some (.slice A1 L[kk].f1.length c1) := by
        have := pw_cell_below HX.out.lower (hcell 1 _ rfl)
        rw [Int.toNat_natCast] at this
        rw [← add_field _ _ 1 (by omega)]; exact this
      have HR1 := Aside0.mk r1
      have hbig1 : L[kk].f1.length ≤ 9223372036854775807 := r1.2.1
      have HP := Aside0.mk (HK.out.2.2.2 _ (List.getElem_mem hlt))
      have HF1 := HF.out
      rw [List.drop_eq_getElem_cons hlt, allF] at HF1
      have HF2 := Aside0.mk HF1
      clear HF1 HF
      generalize L[kk] = p at hc0 hc1 HR1 HP HF2 hbig1
      clear hcell hcl2 hK hx l1 r1
      subst hA
      obtain ⟨mid, hmid⟩ : ∃ mid, mid = allRow p.f0 p.f1 cur := ⟨_, rfl⟩
      have HF3 := HF2.out
      rw [← hmid] at HF3
      have HF := Aside0.mk HF3
      have HMID := Aside0.mk hmid
      clear HF2 HF3 hmid
      go_wp2_with fail
      obtain ⟨W1, hW1⟩ : ∃ W1, W1 = wr.alloc (.cells #[.int .i64 p.f0, .slice A1 p.f1.length c1] 51) := ⟨_, rfl⟩
      have hb1 : Below wr.heap.size wr W1 := by rw [hW1]; exact below_alloc (Below.refl _ _) _
      have HBX := Aside0.mk (show W1.heap[wr.heap.size]? = some (.cells #[.int .i64 p.f0, .slice A1 p.f1.length c1] 51 (0, 0)) by rw [hW1]; exact hp_new rfl)
      have HX1 := Aside0.mk ((HX.out.below hb1).weak (keep' := fun k => k = wr.heap.size) (fun k hk => .inr (by omega)))
      rw [← hW1]
      clear hW1 hb1 HX hc0 hc1
      generalize wr.heap.size = gp at HBX HX1
      go_loopg [22] p.f1.length (fun gg v22 wr2 => ∃ (jj : Nat) (cur2 : List (List Int)), jj ≤ p.f1.length ∧ p.f1.length - jj ≤ gg ∧ v22 = .int .i64 jj ∧ Aside0 (allRow p.f0 (p.f1.drop jj) cur2 = mid) ∧ Aside0 (Rows (500 * kk + jj) cur2) ∧ cur2.length = o.length ∧ Aside0 (RunW w wr2 (w.heap.size + 1) cur2 (fun k => k = gp)) ∧ Aside0 (wr2.heap[gp]? = some (.cells #[.int .i64 p.f0, .slice A1 p.f1.length c1] 51 (0, 0))))
      case atStart => exact ⟨0, cur, Nat.zero_le _, by omega, rfl, ⟨by rw [List.drop_zero]; exact HMID.out.symm⟩, ⟨HRW.out.more (by omega)⟩, hcl, HX1, HBX⟩
      case round =>
        clear HX1 HBX HMID HRW hcl
        obtain ⟨jj, cur2, hjj, hg2, rfl, HG, HRW, hcl, HX, HBX⟩ := hrel
        by_cases hlt2 : jj < p.f1.length
        · have hltz2 : (jj : Int) < (p.f1.length : Int) := by omega
          obtain ⟨ad2, cs, hA, hcl2, hK, hcell⟩ := Kd.C_get HR1.out z59 (jj : Int) (by omega) (by omega)
          have hx : p.f1.getD (jj : Int).toNat z59 = p.f1[jj] := by rw [Int.toNat_natCast, List.getD_eq_getElem?_getD, List.getElem?_eq_getElem hlt2]; rfl
          rw [hx] at hK
          obtain rfl := k59_open hK
          have hc0 : wr.cell? (ad2.add (jj * 2)) = some (.bool p.f1[jj].f0) := by have := pw_cell_below HX.out.lower (hcell 0 _ rfl); rwa [Int.toNat_natCast, Nat.add_zero] at this
          have hc1 : wr.cell? ⟨(ad2.add (jj * 2)).block, (ad2.add (jj * 2)).off + 1, none⟩ = some (.int .i64 p.f1[jj].f1) := by
            have := pw_cell_below HX.out.lower (hcell 1 _ rfl)
            rw [Int.toNat_natCast] at this
            rw [← add_field _ _ 1 (by omega)]; exact this
          have HS := Aside0.mk (HP.out.2.2.2 _ (List.getElem_mem hlt2))
          have HG1 := HG.out
          rw [List.drop_eq_getElem_cons hlt2, allRow] at HG1
          have HG2 := Aside0.mk HG1
          clear HG1 HG
          generalize p.f1[jj] = s at hc0 hc1 HS HG2
          clear hcell hcl2 hK hx
          subst hA
          obtain ⟨tok, n⟩ := s
          cases tok with
          | true =>
            have HG1 := HG2.out
            rw [if_pos rfl] at HG1
            replace HG2 := Aside0.mk HG1
            clear HG1
            have HBX3 := Aside0.mk ((Below.heap_alloc wr (.cells #[.bool true, .int .i64 n] 59) gp (blk_lt HBX.out)).trans HBX.out)
            go_wp2_with fail
            go_roundg (p.f1.length - (jj + 1))
            case measure => omega
            case rel => exact ⟨jj + 1, _, by omega, by omega, by go_num, HG2, ⟨HRW.out.more (by omega)⟩, hcl, ⟨(HX.out.below (below_alloc (Below.refl _ _) _)).weak fun k hk => .inl hk⟩, HBX3⟩
          | false =>
            have hp0 : wr.cell? ⟨gp, 0, none⟩ = some (.int .i64 p.f0) := (blk_cell HBX.out 0).trans rfl
            have HG1 := HG2.out
            rw [if_neg (by simp)] at HG1
            replace HG2 := Aside0.mk HG1
            clear HG1
            have hN := HS.out rfl
            have hn0 : 0 ≤ n := hN.1
            have hn1 : n < (o.length : Int) := hN.2
            have HNB := Aside0.mk hN
            clear hN
            obtain ⟨gx, hgx⟩ : ∃ gx, gx = wr.heap.size := ⟨_, rfl⟩
            have HGX := Aside0.mk hgx
            obtain ⟨W2, hW2⟩ : ∃ W2, W2 = wr.alloc (.cells #[.bool false, .int .i64 n] 59) := ⟨_, rfl⟩
            have hb2 : Below wr.heap.size wr W2 := by rw [hW2]; exact below_alloc (Below.refl _ _) _
            have HBX2 := Aside0.mk ((hb2.block gp (blk_lt HBX.out)).trans HBX.out)
            have HSX := Aside0.mk (show W2.heap[gx]? = some (.cells #[.bool false, .int .i64 n] 59 (0, 0)) by rw [hW2]; exact hp_new hgx)
            have hgpl : gp < gx := by rw [hgx]; exact blk_lt HBX.out
            have hgpl0 : gp < wr.heap.size := blk_lt HBX.out
            have HX2 := Aside0.mk ((HX.out.below hb2).weak (keep' := fun k => k = gp ∨ k = gx) (fun k hk => by rcases hk with h | h; exact .inl h; exact .inr (by omega)))
            have HADD0 := HX2.out.add o.length p.f0 n HP.out.2.1 (by rw [hcl]; exact HP.out.2.2.1) (by omega) (by omega) (by omega) (by have := HRW.out p.f0.toNat; have := HP.out.1; omega)
            rw [hcl] at HADD0
            have HADD := Aside0.mk HADD0
            clear HADD0
            have hszW : W2.heap.size = gx + 1 := by rw [hW2, hgx]; simp
            clear hgx
            go_wp2_with fail
            rw [← hW2]
            rw [← HGX.out]
            clear HGX hgpl0
            clear hW2 hb2 HX HBX hc0 hc1 hp0
            refine HADD.out.mono ?_
            rintro e w3 ⟨rfl, HX3, hkeep, hsz⟩
            have HBX3 := Aside0.mk ((hkeep gp (.inl rfl) (by omega)).trans HBX2.out)
            have HX4 := Aside0.mk (HX3.weak (keep' := fun k => k = gp) (fun k hk => ⟨.inl hk, by omega⟩))
            have hl3 : (addF cur2 p.f0 n).length = o.length := by rw [addF_length]; exact hcl
            have HR3' := Aside0.mk (HRW.out.add p.f0 n)
            clear hkeep HX3 HADD HX2 HBX2 HSX hsz hszW hgpl
            go_wp2_with fail
            go_roundg (p.f1.length - (jj + 1))
            case measure => omega
            case rel => exact ⟨jj + 1, _, by omega, by omega, by go_num, HG2, HR3', hl3, HX4, HBX3⟩
        · have hltz2 : ¬ (jj : Int) < (p.f1.length : Int) := by omega
          go_wp2_with fail
          go_roundg (L.length - (kk + 1))
          case measure => omega
          case rel =>
            have e := HG.out
            rw [List.drop_of_length_le (by omega), allRow] at e
            subst e
            exact ⟨kk + 1, _, by omega, by omega, by go_num, HF, ⟨HRW.out.more (by have := HP.out.1; omega)⟩, hcl, ⟨HX.out.weak fun k hk => hk.elim⟩⟩
    · have hltz : ¬ (kk : Int) < (L.length : Int) := by omega
      have hkl : kk = L.length := by omega
      subst hkl
      go_wp2_with fail
      go_ret
      obtain ⟨ok, h1, h2, h3, h4⟩ := HX.out.out
      have e := HF.out
      rw [List.drop_length] at e
      exact ⟨_, rfl, by rw [← e]; exact h1.wider fun k _ hk => h2 k hk, h4⟩
theorem allRow_in {n : Nat} (a : Int) : ∀ (l : List S59) (g : List (List Int)), (∀ s ∈ l, s.f0 = false → 0 ≤ s.f1 ∧ s.f1 < (n : Int)) → InN n g → InN n (allRow a l g) ∧ (allRow a l g).length = g.length
  | [], g, _, h => ⟨h, rfl⟩
  | s :: r, g, hs, h => by
    unfold allRow
    by_cases h0 : s.f0 = true
    · rw [if_pos h0]
      exact allRow_in a r g (fun s hs' => hs s (List.mem_cons_of_mem _ hs')) h
    · have hb := hs s List.mem_cons_self (by simpa using h0)
      rw [if_neg h0]
      obtain ⟨e1, e2⟩ := allRow_in a r (addF g a s.f1) (fun s hs' => hs s (List.mem_cons_of_mem _ hs')) (h.add a s.f1 hb.1 hb.2)
      exact ⟨e1, e2.trans (addF_length _ _ _)⟩
theorem allF_in {n : Nat} : ∀ (L : List S51) (g : List (List Int)), (∀ p ∈ L, ∀ s ∈ p.f1, s.f0 = false → 0 ≤ s.f1 ∧ s.f1 < (n : Int)) → InN n g → InN n (allF L g) ∧ (allF L g).length = g.length
  | [], g, _, h => ⟨h, rfl⟩
  | p :: r, g, hs, h => by
    obtain ⟨e1, e2⟩ := allRow_in p.f0 p.f1 g (hs p List.mem_cons_self) h
    obtain ⟨e3, e4⟩ := allF_in r (allRow p.f0 p.f1 g) (fun q hq => hs q (List.mem_cons_of_mem _ hq)) e1
    exact ⟨e3, e4.trans e2⟩
def allG (o : List Int) (L : List S51) : List (List Int) := allF L (List.replicate o.length [])
theorem allG_ok {toks look : Int} {o : List Int} {L : List S51} (h : bnf_mayB toks look o L = 0) : InN o.length (allG o L) ∧ (allG o L).length = o.length := by
  obtain ⟨h1, h2⟩ := allF_in (n := o.length) L (List.replicate o.length []) (fun p hp => ((bnf_may_ok h).2.2.2 p hp).2.2.2) (InN.init _ _)
  exact ⟨h1, h2.trans (by simp)⟩
def reachedTell (st : List Bool) (n _ : Int) : List Bool × Bool := (st.set n.toNat true, true)
def reach_Reached.f (a0 a1 : Int) (l2 : List Int) (l3 : List S51) : Option (List Bool × Int) :=
  if bnf_mayB a0 a1 l2 l3 = 0 then (walkL (allG l2 l3) reachedTell (l2.length + 2) (walkPut [0] (-1) (List.replicate l2.length false, [])).1 (walkPut [0] (-1) (List.replicate l2.length false, [])).2 (List.replicate l2.length false)).map fun r => (r, 0) else some ([], bnf_mayB a0 a1 l2 l3)
structure ReachedJ (gb gs n : Nat) (W : World) (st : List Bool) : Prop where
  box : W.heap[gb]? = some (.cells #[.slice (some ⟨gs, 0, none⟩) n n] 35 (0, 0))
  row : Kd.R Kd.bool 4 W gs (fun k => k = gs) (.slice (some ⟨gs, 0, none⟩) n n) st
set_option maxHeartbeats 2000000 in
theorem reach_reached1 (gb gs : Nat) (w0 : World) (n : Nat) (hgb : gb < w0.heap.size) (hgs : gs < w0.heap.size) (hne : gs ≠ gb) (hn : n ≤ 1000000000) :
    Told 60 #[.pointer (some ⟨gb, 0, none⟩)] w0 n (fun k => k = gb ∨ k = gs) (ReachedJ gb gs n) reachedTell (fun _ => 0) := by
  refine ⟨fun _ _ _ => Nat.zero_le _, fun k hk => by rcases hk with hk | hk <;> rw [hk] <;> assumption, fun W W1 st h hk => ⟨(hk gb (.inl rfl)).trans h.box, Kd.R_step h.row fun k hk' _ => hk k (.inr hk')⟩, fun W st a b hK hJ _ a0 a1 b0 b1 => ?_⟩
  show Calls Try.prog 60 #[.int .i64 a, .int .i64 b, .pointer (some ⟨gb, 0, none⟩)] W fun e W' => e = .returned (.bool true) ∧ ReachedJ gb gs n W' (st.set a.toNat true) ∧ Keeps (fun k => k = gb ∨ k = gs) W W'
  have hic : W.cell? ⟨gb, 0, none⟩ = some (.slice (some ⟨gs, 0, none⟩) n n) := (blk_cell hJ.box 0).trans rfl
  obtain ⟨hmc, hmf⟩ := Kd.R_celln false hJ.row a a0 a1
  have HP := Aside0.mk (show ReachedJ gb gs n (W.setCell ⟨gs, a.toNat, none⟩ (.bool true)) (st.set a.toNat true) from ⟨(Below.heap_setCell _ _ _ _ (fun e => hne e.symm)).trans hJ.box, Kd.R_putn hJ.row a true⟩)
  clear hJ hK
  go_enter Try.func60, Try.ntmps60
  go_wp2_with fail
  go_ret
  exact ⟨rfl, HP.out, (Keeps.refl _ _).set _ _ _ (.inr rfl)⟩
set_option maxHeartbeats 4000000 in
set_option maxRecDepth 100000 in
theorem reach_Reached.calls (toks look : Int) (A2 : Option Addr) (c2 : Nat) (o : List Int) (A3 : Option Addr) (c3 : Nat) (L : List S51) (r1 : List Bool) (r2i : Int) (w : World)
    (r2 : Kd.C (Kd.int .i64) w A2 o.length o) (l2 : o.length ≤ c2) (r3 : Kd.C k51 w A3 L.length L) (l3 : L.length ≤ c3) (h : reach_Reached.f toks look o L = some (r1, r2i)) :
    Calls Try.prog 32 #[.agg #[.int .i64 toks, .int .i64 look, .slice A2 o.length c2, .slice A3 L.length c3]] w fun e w' => ∃ v0_ : Value, e = .returned (.tuple #[v0_, .int .i64 r2i]) ∧ Kd.R Kd.bool 4 w' w.heap.size (fun _ => True) v0_ r1 ∧ Below w.heap.size w w' := by
  obtain ⟨W1, hW1⟩ : ∃ W1, W1 = w.alloc (.cells #[.int .i64 toks, .int .i64 look, .slice A2 o.length c2, .slice A3 L.length c3] 25) := ⟨_, rfl⟩
  have hb1 : Below w.heap.size w W1 := by rw [hW1]; exact below_alloc (Below.refl _ _) _
  have hbx : W1.heap[w.heap.size]? = some (.cells #[.int .i64 toks, .int .i64 look, .slice A2 o.length c2, .slice A3 L.length c3] 25 (0, 0)) := by rw [hW1]; exact hp_new rfl
  have HM := Aside0.mk (bnf_may_calls toks look A2 c2 o A3 c3 L W1 (Kd.C_below r2 hb1) l2 (Kd.C_below r3 hb1) l3)
  have HR2 := Aside0.mk r2
  have HR3 := Aside0.mk r3
  have HB1 := Aside0.mk hb1
  have x0 : W1.cell? ⟨w.heap.size, 0, none⟩ = some (.int .i64 toks) := (blk_cell hbx 0).trans rfl
  have x1 : W1.cell? ⟨w.heap.size, 1, none⟩ = some (.int .i64 look) := (blk_cell hbx 1).trans rfl
  have x2 : W1.cell? ⟨w.heap.size, 2, none⟩ = some (.slice A2 o.length c2) := (blk_cell hbx 2).trans rfl
  have x3 : W1.cell? ⟨w.heap.size, 3, none⟩ = some (.slice A3 L.length c3) := (blk_cell hbx 3).trans rfl
  have HH := Aside0.mk h
  clear r2 r3 hb1 hbx h
  go_enter Try.func32, Try.ntmps32
  go_wp2_with fail
  rw [← hW1]
  clear hW1
  refine HM.out.mono ?_
  rintro e w1 ⟨rfl, hb2⟩
  have HB2 := Aside0.mk (below_step HB1.out hb2)
  have y0 := pw_cell_below hb2 x0
  have y1 := pw_cell_below hb2 x1
  have y2 := pw_cell_below hb2 x2
  have y3 := pw_cell_below hb2 x3
  have hxl := World.block_lt_of_cell? w1 _ y0
  clear x0 x1 x2 x3 hb2 HM
  have hh := HH.out
  unfold reach_Reached.f at hh
  by_cases hq0 : bnf_mayB toks look o L = 0
  · rw [if_pos hq0] at hh
    obtain ⟨st, hst, h2⟩ := Option.map_eq_some_iff.1 hh
    injection h2 with h2 h3
    subst h2 h3
    have hk := bnf_may_ok hq0
    have hO1 : 1 ≤ o.length := hk.1
    have hO2 : o.length ≤ 500 := hk.2.1
    obtain ⟨W2, hW2⟩ : ∃ W2, W2 = (w1.alloc (.cells (madeCells #[.bool false] o.length) 4)).alloc (.cells #[.slice (some ⟨w1.heap.size, 0, none⟩) o.length o.length] 35) := ⟨_, rfl⟩
    have hb3 : Below w1.heap.size w1 W2 := by rw [hW2]; exact below_alloc (below_alloc (Below.refl _ _) _) _
    have hj2 : ReachedJ (w1.heap.size + 1) w1.heap.size o.length W2 (List.replicate o.length false) := by
      refine ⟨by rw [hW2]; exact hp_new (by simp), ?_⟩
      rw [hW2]
      refine Kd.R_below (w1 := World.alloc _ _) ?_ (below_alloc (Below.refl _ _) _)
      exact R_madeS (enc := Value.bool) (h1 := fun _ => rfl) false w1 w1.heap.size 4 o.length (Nat.le_refl _) (by omega) (ok := fun k => k = w1.heap.size) rfl
    have HALL := Aside0.mk (reach_all_calls toks look A2 c2 o A3 c3 L W2 (Kd.C_below HR2.out (below_step HB2.out hb3)) l2 (Kd.C_below HR3.out (below_step HB2.out hb3)) l3 hq0)
    have hmk := fun W => run_make_row' (P := Try.prog) 35 4 (.bool false) 1 Try.underlying35 reach_infoB rfl .i64 .i64 o.length (by omega) (by omega) W
    have HII := Aside0.mk (allG_ok hq0)
    have HST := Aside0.mk hst
    have HJ2 := Aside0.mk hj2
    have HB3 := Aside0.mk (below_step HB2.out hb3)
    have hsz3 : W2.heap.size = w1.heap.size + 1 + 1 := by rw [hW2]; simp
    have HW2 := Aside0.mk hW2
    have HQ := Aside0.mk hq0
    have e1 : (bnf_mayB toks look o L != 0) = false := by rw [hq0]; rfl
    have e2 : decide (bnf_mayB toks look o L ≠ 0) = false := by rw [hq0]; rfl
    have HE1 := Aside0.mk e1
    have z2 : W2.cell? ⟨w.heap.size, 2, none⟩ = some (.slice A2 o.length c2) := pw_cell_below hb3 y2
    clear hh HH hst hk hj2 hb3 hW2 hq0 e1 e2
    generalize bnf_mayB toks look o L = q at HQ HE1
    have hq := HQ.out
    subst hq
    clear HQ HE1
    go_wp2_with fail
    rw [← HW2.out]
    refine HALL.out.mono ?_
    rintro e w3 ⟨g, rfl, hS, hb4⟩
    have hS : Steps w3 (fun k => W2.heap.size ≤ k) g (allG o L) := hS
    have HB4 := Aside0.mk (below_step HB3.out hb4)
    obtain ⟨W4, hW4⟩ : ∃ W4, W4 = w3.alloc (.cells #[.int .i64 0] 3) := ⟨_, rfl⟩
    have hb5 : Below w3.heap.size w3 W4 := by rw [hW4]; exact below_alloc (Below.refl _ _) _
    have hsz4 := hb4.size
    have hn4 : W4.heap[w3.heap.size]? = some (.cells #[.int .i64 0] 3 (0, 0)) := by rw [hW4]; exact hp_new rfl
    have hQr : QInts W4 0 3 (.slice (some ⟨w3.heap.size, 0, none⟩) 1 1) [0] := by
      rw [hW4]
      exact QInts.of_R (ok := fun _ => True) (Kd.R_of_own (World.ownsRow_lit (base := 0) (e := 3) (size := 1) w3 #[.int .i64 0] 1 (Nat.zero_le _) (by decide) rfl) (fun _ _ => trivial))
    have hj4 : ReachedJ (w1.heap.size + 1) w1.heap.size o.length W4 (List.replicate o.length false) := by
      have hb6 := below_step hb4 hb5
      exact ⟨(hb6.block _ (by omega)).trans HJ2.out.box, Kd.R_below HJ2.out.row hb6⟩
    have hll := HII.out.2
    have hst := HST.out
    have HC0 := reach_walk_calls (oks := fun k => W2.heap.size ≤ k ∧ k < w3.heap.size) (X := fun k => k = w1.heap.size + 1 ∨ k = w1.heap.size) (J := ReachedJ (w1.heap.size + 1) w1.heap.size o.length) (tell := reachedTell) (lb := #[.pointer (some ⟨w1.heap.size + 1, 0, none⟩)]) g o.length (allG o L) (some ⟨w3.heap.size, 0, none⟩) 1 [0] W4 (List.replicate o.length false) st
      (by rw [hll]; exact reach_reached1 (w1.heap.size + 1) w1.heap.size W4 o.length (by have := hb5.size; omega) (by have := hb5.size; omega) (by omega) (by omega)) (fun args w => enters_ Try.func60 (by kernel_rfl) rfl args w)
      ((hS.wider fun k hk ho => ⟨ho, hk⟩).below hb5) (fun k hk e => by have := hk.1; omega) hQr (fun k hk e => by simp only [Value.ownBlock, Option.some.injEq] at hk; omega) (by omega) (by rw [hll]; exact HII.out.1) (by rw [hll]; intro x hx; obtain rfl := List.mem_singleton.1 hx; omega) hj4 (o.length + 2) (by show 0 + _ ≤ _; omega) (by rw [hll]; exact hst)
    rw [hll] at HC0
    have HC := Aside0.mk HC0
    have HW4 := Aside0.mk hW4
    have HB5 := Aside0.mk (below_step HB4.out hb5)
    have hgl : g < w3.heap.size := hS.lt
    have hzl : w1.heap.size + 1 < w3.heap.size := by omega
    have HZ := Aside0.mk (show w.heap.size ≤ w1.heap.size from HB2.out.size)
    clear HALL HC0 hS hb4 hb5 hn4 hQr hj4 hW4 hst HST HJ2 hll HII hmk hsz3 hsz4 hO1 hO2
    go_wp2_with fail
    rw [← HW4.out]
    refine HC.out.mono ?_
    rintro e w5 ⟨rfl, hJ, hK⟩
    have HB6 := Aside0.mk (HB5.out.trans (hK.to_below (B := w.heap.size) HB5.out.size (by
      have := HZ.out
      rintro k hk (h | h) <;> omega)))
    have hc5 : w5.cell? ⟨w1.heap.size + 1, 0, none⟩ = some (.slice (some ⟨w1.heap.size, 0, none⟩) o.length o.length) := (blk_cell hJ.box 0).trans rfl
    have HJ := Aside0.mk hJ
    clear hJ hK HC
    go_wp2_with fail
    go_ret2
    exact ⟨_, rfl, Kd.R_mono (Kd.R_lower HJ.out.row HZ.out) (fun _ _ => trivial), HB6.out⟩
  · rw [if_neg hq0] at hh
    injection hh with hh
    injection hh with h2 h3
    subst h2
    rw [h3] at hq0
    have e1 : (r2i != 0) = true := bne_iff_ne.mpr hq0
    have e2 : decide (r2i ≠ 0) = true := decide_eq_true hq0
    have h3' := Aside0.mk h3
    rw [h3]
    clear h3 hq0 HH
    go_wp2_with fail
    go_ret2
    exact ⟨_, rfl, Kd.R_nil _ _ _ _ _, HB2.out⟩
end Go.Proofs.Ytmpdilifoblnaaa.MReachTells
end
section
namespace Go.Proofs.Ytmpdilifoblnaaa.MReachTells
open Go.RowKit Go.Proofs.YtmpdilifoblnaaaW.PrintWords Go.Proofs.YtmpdilifoblnaaaW.PrintLast Go.Proofs.YtmpdilifoblnaaaW.PrintMore Go.Proofs.Ytmpdilifoblnaaa.Fun Go.Proofs.Ytmpdilifoblnaaa.Mem
attribute [local go_sem] max2_int min2_int max_two min_two max_three min_three max_four min_four
set_option linter.unusedVariables false
set_option linter.unusedSimpArgs false
def isEnds (s : S59) (m : List Bool) : Bool := s.f0 || rdOf false m s.f1
set_option maxHeartbeats 2000000 in
theorem empty_ends1 (n : Nat) (w : World) : IsK 44 #[] isEnds n w := by
  intro W s m A c hb hs hn hC hc
  obtain ⟨tok, x⟩ := s
  show Calls Try.prog 44 #[.agg #[.bool tok, .int .i64 x], .slice A m.length c] W fun e w' => e = .returned (.bool (tok || rdOf false m x)) ∧ Below W.heap.size W w'
  cases tok with
  | true =>
    clear hC
    go_enter Try.func44, Try.ntmps44
    go_wp2_with fail
    go_ret
    exact ⟨rfl, below_alloc (Below.refl _ _) _⟩
  | false =>
    obtain ⟨x0, x1⟩ := hs rfl
    obtain ⟨ad, hA, hx⟩ := Kd.at_bool hC x x0 (by show x < (m.length : Int); rw [hn]; exact x1)
    subst hA
    have x1' : x < (m.length : Int) := by rw [hn]; exact x1
    have hx0 : (0 : Int) ≤ x := x0
    have hnew := World.block_lt_of_cell? W _ hx
    clear hC x1 hn hs
    have hx' := hx
    generalize rdOf false m x = q at hx hx'
    go_enter Try.func44, Try.ntmps44
    go_wp2_with fail
    go_ret
    exact ⟨by simp, below_alloc (Below.refl _ _) _⟩
def empty_Ends.f (a0 a1 : Int) (l2 : List Int) (l3 : List S51) : Option (List Bool × Int) := empty_marksF isEnds a0 a1 l2 l3
set_option maxHeartbeats 2000000 in
theorem empty_Ends.calls (toks look : Int) (A2 : Option Addr) (c2 : Nat) (o : List Int) (A3 : Option Addr) (c3 : Nat) (L : List S51) (r1 : List Bool) (r2i : Int) (w : World)
    (r2 : Kd.C (Kd.int .i64) w A2 o.length o) (l2 : o.length ≤ c2) (r3 : Kd.C k51 w A3 L.length L) (l3 : L.length ≤ c3) (h : empty_Ends.f toks look o L = some (r1, r2i)) :
    Calls Try.prog 17 #[.agg #[.int .i64 toks, .int .i64 look, .slice A2 o.length c2, .slice A3 L.length c3]] w fun e w' => ∃ v0_ : Value, e = .returned (.tuple #[v0_, .int .i64 r2i]) ∧ Kd.R Kd.bool 4 w' w.heap.size (fun _ => True) v0_ r1 ∧ Below w.heap.size w w' := by
  have HM0 := fun (W : World) (hb : Below w.heap.size w W) => empty_marks_calls toks look A2 c2 o A3 c3 L 44 #[] isEnds r1 r2i W (Kd.C_below r2 hb) l2 (Kd.C_below r3 hb) l3 (fun n W => empty_ends1 n W) (fun args w => enters_ Try.func44 (by kernel_rfl) rfl args w) h
  have HM := Aside0.mk HM0
  clear r2 r3 h HM0
  go_enter Try.func17, Try.ntmps17
  go_wp2_with fail
  refine (HM.out _ (below_alloc (Below.refl _ _) _)).mono ?_
  rintro e w1 ⟨v, rfl, hr, hb⟩
  have HR := Aside0.mk (Kd.R_lower hr (below_size (below_alloc (Below.refl _ _) _)))
  have HB := Aside0.mk (below_step (below_alloc (Below.refl _ _) _) hb)
  clear hr hb HM
  go_wp2_with fail
  go_ret2
  exact ⟨_, rfl, HR.out, HB.out⟩
def reach_Dead.l0 : Nat → Int → List Int → List Bool → Int → Int → Option (List Int × Int)
  | 0, _, _, _, _, _ => none
  | k + 1, x5, x6, x17, x18, x19 => if x19 < x18 then (if 0 ≤ x19 then (if x19 < (x17.length : Int) then (if rdOf false x17 x19 = true then (reach_Dead.l0 k x5 x6 x17 x18 (wrap64 (x19 + 1))) else (if x6.length < 17592186044416 then (reach_Dead.l0 k x5 (x6 ++ [x19]) x17 x18 (wrap64 (x19 + 1))) else (none))) else (none)) else (none)) else (some (x6, x5))
def reach_Dead.f (k : Nat) (a0_0 : Int) (a0_1 : Int) (l0_2 : List Int) (l0_3 : List (S51)) : Option (List Int × Int) := (empty_Ends.f a0_0 a0_1 l0_2 l0_3).bind fun bt202 => (if bt202.2 = 0 then (reach_Dead.l0 k bt202.2 ([] : List Int) bt202.1 (bt202.1.length : Int) 0) else (some (([] : List Int), bt202.2)))
set_option maxHeartbeats 8000000 in
set_option maxRecDepth 100000 in
theorem reach_Dead.calls (k : Nat) (a0_0 : Int) (a0_1 : Int) (A0_2 : Option Addr) (c0_2 : Nat) (l0_2 : List Int) (A0_3 : Option Addr) (c0_3 : Nat) (l0_3 : List (S51)) (r1 : List Int) (r2 : Int) (w : World) (hr0_2 : Kd.C (Kd.int .i64) w A0_2 l0_2.length l0_2) (hc0_2 : l0_2.length ≤ c0_2) (hr0_3 : Kd.C k51 w A0_3 l0_3.length l0_3) (hc0_3 : l0_3.length ≤ c0_3) (h : reach_Dead.f k a0_0 a0_1 l0_2 l0_3 = some (r1, r2)) :
    Calls Try.prog 33 #[.agg #[.int .i64 a0_0, .int .i64 a0_1, .slice A0_2 l0_2.length c0_2, .slice A0_3 l0_3.length c0_3]] w fun e w' => ∃ v0_ : Value, e = .returned (.tuple #[v0_, .int .i64 r2]) ∧ Kd.R (Kd.int .i64) 3 w' w.heap.size (fun _ => True) v0_ r1 ∧ Below w.heap.size w w' := by
  have hu25 := Try.underlying25
  have HR0_2 := Aside0.mk hr0_2
  have HC0_2 := Aside0.mk hc0_2
  clear hr0_2 hc0_2
  have HR0_3 := Aside0.mk hr0_3
  have HC0_3 := Aside0.mk hc0_3
  clear hr0_3 hc0_3
  have HB := Aside0.mk (Below.refl w.heap.size w)
  have H : ((empty_Ends.f a0_0 a0_1 l0_2 l0_3).bind fun bt202 => (if bt202.2 = 0 then (reach_Dead.l0 k bt202.2 ([] : List Int) bt202.1 (bt202.1.length : Int) 0) else (some (([] : List Int), bt202.2)))) = some (r1, r2) := h
  clear h
  replace H := Option.bind_eq_some_iff.mp H
  obtain ⟨⟨t202, t205⟩, A20, H⟩ := H
  replace H : (if t205 = 0 then (reach_Dead.l0 k t205 ([] : List Int) t202 (t202.length : Int) 0) else (some (([] : List Int), t205))) = some (r1, r2) := H
  have A2 := Aside0.mk A20
  clear A20
  by_cases c3 : t205 = 0
  · rw [if_pos c3] at H
    have c3b0 : (t205 == 0) = true := beq_iff_eq.mpr c3
    have c3b1 : (t205 != 0) = false := bne_eq_false_iff_eq.mpr c3
    clear c3
    have H' := Aside0.mk H
    clear H
    go_enter Try.func33, Try.ntmps33
    go_wp2_with (first | ((with_reducible refine gate_dst (N := 1) rfl ?_); refine box_event ?hg (N := 1) ?hd (cs := #[.int .i64 a0_0, .int .i64 a0_1, .slice A0_2 l0_2.length c0_2, .slice A0_3 l0_3.length c0_3]) (t := 25) ?hr ?_; (case hd => rfl); (case hg => rfl); (case hr => first | (go_simp; done) | (go_simp; rfl)); intro gb201 hg w4 hbox hb; have n0_ := Aside0.mk (below_step (by repeat (first | (with_reducible first | exact HB.out | apply below_alloc | apply pw_below_drewN | apply below_drew1) | exact HB.out)) hb); have n1_ := Aside0.mk (hbox); have n2_ := Aside0.mk ((by rw [hg]; exact (below_size (by repeat (first | (with_reducible first | exact HB.out | apply below_alloc | apply pw_below_drewN | apply below_drew1) | exact HB.out))) : w.heap.size ≤ gb201)); have n3_ := Aside0.mk ((by rw [hg]; exact (below_size (by repeat (first | (with_reducible first | exact HB.out | apply below_alloc | apply pw_below_drewN | apply below_drew1) | exact HB.out))) : w.heap.size ≤ gb201)); clear HB; have HB := n0_; have BK201 := n1_; have GW201 := n2_; have GE201 := n3_; clear n0_ n1_ n2_ n3_; clear hb hbox hg; have hcz5_0 : w4.cell? ⟨gb201, 0, none⟩ = some (.int .i64 a0_0) := (blk_cell BK201.out 0).trans rfl; have hcz5_1 : w4.cell? ⟨gb201, 1, none⟩ = some (.int .i64 a0_1) := (blk_cell BK201.out 1).trans rfl; have hcz5_2 : w4.cell? ⟨gb201, 2, none⟩ = some (.slice A0_2 l0_2.length c0_2) := (blk_cell BK201.out 2).trans rfl; have hcz5_3 : w4.cell? ⟨gb201, 3, none⟩ = some (.slice A0_3 l0_3.length c0_3) := (blk_cell BK201.out 3).trans rfl; have hfz5_0 := blk_frozen BK201.out 0; have hfz5_1 := blk_frozen BK201.out 1; have hfz5_2 := blk_frozen BK201.out 2; have hfz5_3 := blk_frozen BK201.out 3) | ((with_reducible refine gate_callee (f := 17) rfl ?_); refine goesL_ (some 11) rfl rfl Try.func17 (by kernel_rfl) rfl #[.agg #[.int .i64 a0_0, .int .i64 a0_1, .slice A0_2 l0_2.length c0_2, .slice A0_3 l0_3.length c0_3]] rfl (by (try simp only [List.map_toArray, List.map_cons, List.map_nil]); first | done | rfl | (simp only [List.length_drop, List.length_take]; rfl)) ?_; (with_reducible refine (empty_Ends.calls a0_0 a0_1 _ _ l0_2 _ _ l0_3 t202 t205 _ ?side1 ?side2 ?side3 ?side4 A2.out).mono ?_); (case side1 => repeat (first | exact (Kd.C_below HR0_2.out HB.out) | (with_reducible refine Kd.C_alloc ?_ _) | (with_reducible refine Kd.C_drewN ?_ _) | (with_reducible refine Kd.C_drew ?_))); (case side2 => exact HC0_2.out); (case side3 => repeat (first | exact (Kd.C_below HR0_3.out HB.out) | (with_reducible refine Kd.C_alloc ?_ _) | (with_reducible refine Kd.C_drewN ?_ _) | (with_reducible refine Kd.C_drew ?_))); (case side4 => exact HC0_3.out); rintro e w6 ⟨v203, rfl, ho0, hb⟩; refine ⟨_, rfl, ?_⟩; have n0_ := Aside0.mk (Kd.R_lower ho0 (below_size (by repeat (first | (with_reducible first | exact HB.out | apply below_alloc | apply pw_below_drewN | apply below_drew1 | refine below_set ?_ GE201.out) | exact HB.out)))); have n1_ := Aside0.mk (blk_below (g := gb201) (o := .cells #[.int .i64 a0_0, .int .i64 a0_1, .slice A0_2 l0_2.length c0_2, .slice A0_3 l0_3.length c0_3] 25 (0, 0)) (by (with_reducible repeat (first | refine blk_drewN ?_ _ | refine blk_drew ?_ | refine blk_alloc ?_ _)); exact BK201.out) hb); have n2_ := Aside0.mk (below_step (by repeat (first | (with_reducible first | exact HB.out | apply below_alloc | apply pw_below_drewN | apply below_drew1 | refine below_set ?_ GE201.out) | exact HB.out)) hb); clear BK201; clear HB; have HO204 := n0_; have BK201 := n1_; have HB := n2_; clear n0_ n1_ n2_; (try clear hb); (try clear hb2); (try clear hk); (try clear hi); (try clear ho0); obtain ⟨Ao7, co7, eo7⟩ := Kd.R_slice HO204.out; subst eo7))
    (try (with_reducible (show Code.wp _ _ _ (Act.put _ _ _) _); go_simp))
    go_loopg [6, 19] k (fun kq v6 v19 w' => ∃ (x6_1 : List Int) (x19_1 : Int), v19 = .int .i64 x19_1 ∧ Aside0 (reach_Dead.l0 kq t205 x6_1 t202 (t202.length : Int) x19_1 = some (r1, r2)) ∧ Aside0 (kq ≤ k) ∧ Aside0 (Kd.R (Kd.int .i64) 3 w' w.heap.size (fun _ => True) v6 x6_1) ∧ Aside0 (Kd.R Kd.bool 4 w' w.heap.size (fun _ => True) (.slice Ao7 t202.length co7) t202) ∧ Aside0 (w'.heap[gb201]? = some (.cells #[.int .i64 a0_0, .int .i64 a0_1, (.slice A0_2 l0_2.length c0_2), (.slice A0_3 l0_3.length c0_3)] 25 (0, 0))) ∧ Aside0 (Below w.heap.size w w'))
    case atStart => exact ⟨(([] : List Int)), (0), (by first | rfl | (simp; done) | (simp [*]; done)), H', ⟨Nat.le_refl _⟩, ⟨by first | exact Kd.R_nil _ _ _ _ _ | exact Kd.N_nil _ _ _ _ _ | exact Kd.V_nil _ _ _ _ _ | exact Kd.Q_nil _ _ _ _ _ | exact Kd.S_nil _ _ _ _ _⟩, ⟨by (with_reducible repeat (first | apply Kd.R_alloc | apply Kd.R_drewN | apply Kd.R_drew)); exact HO204.out⟩, ⟨by (with_reducible repeat (first | refine blk_drewN ?_ _ | refine blk_drew ?_ | refine blk_alloc ?_ _)); exact BK201.out⟩, ⟨by repeat (first | (with_reducible first | exact HB.out | apply below_alloc | apply pw_below_drewN | apply below_drew1 | refine below_set ?_ GE201.out) | exact HB.out)⟩⟩
    case round =>
      clear H'
      try clear c1
      try clear p2
      try clear c3
      try clear c3b0
      try clear c3b1
      try clear hcz5_0
      try clear hcz5_1
      try clear hcz5_2
      try clear hcz5_3
      try clear hfz5_0
      try clear hfz5_1
      try clear hfz5_2
      try clear hfz5_3
      obtain ⟨x6_1, x19_1, rfl, HA, HK1, HO_6, HO_17, BK201, HB⟩ := hrel
      cases gk with
      | zero => exact absurd HA.out (by simp [reach_Dead.l0])
      | succ k1 =>
        have H := HA.out
        clear HA
        simp only [reach_Dead.l0] at H
        by_cases c8 : x19_1 < (t202.length : Int)
        · rw [if_pos c8] at H
          have c8b0 : decide (x19_1 < (t202.length : Int)) = true := decide_eq_true c8
          clear c8
          by_cases c9 : 0 ≤ x19_1
          · rw [if_pos c9] at H
            have c9b0 : decide (0 ≤ x19_1) = true := decide_eq_true c9
            clear c9
            by_cases c10 : x19_1 < (t202.length : Int)
            · rw [if_pos c10] at H
              have c10b0 : decide (x19_1 < (t202.length : Int)) = true := decide_eq_true c10
              clear c10
              obtain ⟨bq11, hbq11⟩ : ∃ b_ : Bool, b_ = (rdOf false t202 x19_1) := ⟨_, rfl⟩
              replace H : (if bq11 = true then (reach_Dead.l0 k1 t205 x6_1 t202 (t202.length : Int) (wrap64 (x19_1 + 1))) else (if x6_1.length < 17592186044416 then (reach_Dead.l0 k1 t205 (x6_1 ++ [x19_1]) t202 (t202.length : Int) (wrap64 (x19_1 + 1))) else (none))) = some (r1, r2) := by rw [← hbq11] at H; exact H
              have Nbq11 := Aside0.mk hbq11
              clear hbq11
              by_cases c12 : bq11 = true
              · subst c12
                have H1 : (reach_Dead.l0 k1 t205 x6_1 t202 (t202.length : Int) (wrap64 (x19_1 + 1))) = some (r1, r2) := by rw [if_pos rfl] at H; exact H
                clear H
                have H := H1
                clear H1
                have H' := Aside0.mk H
                clear H
                have p206 : 0 ≤ (x19_1 : Int) := of_decide_eq_true (by first | (with_reducible assumption) | assumption)
                have q206 : x19_1 < (t202.length : Int) := of_decide_eq_true (by first | (with_reducible assumption) | assumption)
                obtain ⟨ad206, e206, hx206_0⟩ := Kd.at_bool (Kd.R_reads' HO_17.out).2.2 x19_1 p206 q206
                (try rw [← Nbq11.out] at hx206_0)
                cases e206
                replace p206 := eq_true p206
                replace q206 := eq_true q206
                go_wp2
                go_roundg k1
                case measure => have := HK1.out; omega
                case rel => (try rw [← Nbq11.out]); exact ⟨(x6_1), (wrap64 (x19_1 + 1)), (by first | rfl | (simp; done) | (simp [*]; done)), H', ⟨by have := HK1.out; omega⟩, ⟨by (with_reducible repeat (first | apply Kd.R_alloc | apply Kd.R_drewN | apply Kd.R_drew)); exact HO_6.out⟩, ⟨by (with_reducible repeat (first | apply Kd.R_alloc | apply Kd.R_drewN | apply Kd.R_drew)); exact HO_17.out⟩, ⟨by (with_reducible repeat (first | refine blk_drewN ?_ _ | refine blk_drew ?_ | refine blk_alloc ?_ _)); exact BK201.out⟩, ⟨by repeat (first | (with_reducible first | exact HB.out | apply below_alloc | apply pw_below_drewN | apply below_drew1 | refine below_set ?_ GE201.out) | exact HB.out)⟩⟩
              · replace c12 := Bool.eq_false_iff.mpr c12
                subst c12
                have H1 : (if x6_1.length < 17592186044416 then (reach_Dead.l0 k1 t205 (x6_1 ++ [x19_1]) t202 (t202.length : Int) (wrap64 (x19_1 + 1))) else (none)) = some (r1, r2) := by rw [if_neg (show ¬ (false = true) by decide)] at H; exact H
                clear H
                have H := H1
                clear H1
                by_cases c13 : x6_1.length < 17592186044416
                · rw [if_pos c13] at H
                  have LMc13 := Aside0.mk c13
                  clear c13
                  obtain ⟨y207, hy207⟩ : ∃ y_ : List Int, y_ = (x6_1 ++ [x19_1]) := ⟨_, rfl⟩
                  replace H : (reach_Dead.l0 k1 t205 y207 t202 (t202.length : Int) (wrap64 (x19_1 + 1))) = some (r1, r2) := by first | (rw [hy207]; with_reducible exact H) | (have H2_ := (Option.bind_some _ _).symm.trans H; rw [hy207]; with_reducible exact H2_) | (have H2_ := (Option.bind_some _ _).symm.trans H; with_reducible exact H2_) | with_reducible exact H | (rw [hy207]; exact H) | exact H
                  have Ny207 := Aside0.mk hy207
                  clear hy207
                  have H' := Aside0.mk H
                  clear H
                  have p206 : 0 ≤ (x19_1 : Int) := of_decide_eq_true (by first | (with_reducible assumption) | assumption)
                  have q206 : x19_1 < (t202.length : Int) := of_decide_eq_true (by first | (with_reducible assumption) | assumption)
                  obtain ⟨ad206, e206, hx206_0⟩ := Kd.at_bool (Kd.R_reads' HO_17.out).2.2 x19_1 p206 q206
                  (try rw [← Nbq11.out] at hx206_0)
                  cases e206
                  replace p206 := eq_true p206
                  replace q206 := eq_true q206
                  go_wp2_with (first | ((with_reducible refine gate_builtin (b := .append) (xs := #[.tmp 26, .tmp 28]) rfl ?_); at_builtin; refine Kd.R_append (Kd.int .i64) (w0 := w) w.heap.size rfl (.tmp 26) (.tmp 28) 22 3 (.int .i64 0) 8 rfl Try.underlying22 info3 rfl (by decide) (by omega) u6 x6_1 x19_1 [.int .i64 x19_1] (fun _ => True) (fun _ => False) rfl rfl ?aP (fun _ hk => hk.elim) ?aF ?aO ?aB ?aS ?aL ?_; (case aP => exact rfl); (case aB => exact (by repeat (first | (with_reducible first | exact HB.out | apply below_alloc | apply pw_below_drewN | apply below_drew1 | refine below_set ?_ GE201.out) | exact HB.out))); (case aF => exact (fun _ _ => trivial)); (case aO => exact (by (with_reducible repeat (first | apply Kd.R_alloc | apply Kd.R_drewN | apply Kd.R_drew)); exact HO_6.out)); (case aS => exact (below_size (by repeat (first | (with_reducible first | exact HB.out | apply below_alloc | apply pw_below_drewN | apply below_drew1 | refine below_set ?_ GE201.out) | exact HB.out)))); (case aL => have := LMc13.out; omega); intro v208 w14 ho hb hg hat; rw [← Ny207.out] at ho; have n0_ := Aside0.mk (Kd.R_over' (by (with_reducible repeat (first | apply Kd.R_alloc | apply Kd.R_drewN | apply Kd.R_drew)); exact HO_17.out) (Kd.R_typed (by (with_reducible repeat (first | apply Kd.R_alloc | apply Kd.R_drewN | apply Kd.R_drew)); exact HO_6.out)) (by decide) hg); have n1_ := Aside0.mk (blk_grown (g := gb201) (o := .cells #[.int .i64 a0_0, .int .i64 a0_1, .slice A0_2 l0_2.length c0_2, .slice A0_3 l0_3.length c0_3] 25 (0, 0)) (by (with_reducible repeat (first | refine blk_drewN ?_ _ | refine blk_drew ?_ | refine blk_alloc ?_ _)); exact BK201.out) hg (Kd.R_ne HO_6.out BK201.out (by decide))); have n2_ := Aside0.mk (hb); have n3_ := Aside0.mk (ho); clear HO_17; clear BK201; clear HB; clear HO_6; have HO_17 := n0_; have BK201 := n1_; have HB := n2_; have HO209 := n3_; clear n0_ n1_ n2_ n3_; clear ho hb hg hat))
                  go_roundg k1
                  case measure => have := HK1.out; omega
                  case rel => (try rw [← Nbq11.out]); exact ⟨(y207), (wrap64 (x19_1 + 1)), (by first | rfl | (simp; done) | (simp [*]; done)), H', ⟨by have := HK1.out; omega⟩, ⟨by (with_reducible repeat (first | apply Kd.R_alloc | apply Kd.R_drewN | apply Kd.R_drew)); exact HO209.out⟩, ⟨by (with_reducible repeat (first | apply Kd.R_alloc | apply Kd.R_drewN | apply Kd.R_drew)); exact HO_17.out⟩, ⟨by (with_reducible repeat (first | refine blk_drewN ?_ _ | refine blk_drew ?_ | refine blk_alloc ?_ _)); exact BK201.out⟩, ⟨by repeat (first | (with_reducible first | exact HB.out | apply below_alloc | apply pw_below_drewN | apply below_drew1 | refine below_set ?_ GE201.out) | exact HB.out)⟩⟩
                · rw [if_neg c13] at H
                  exact absurd H (by simp)
            · rw [if_neg c10] at H
              exact absurd H (by simp)
          · rw [if_neg c9] at H
            exact absurd H (by simp)
        · rw [if_neg c8] at H
          have c8b0 : decide (x19_1 < (t202.length : Int)) = false := decide_eq_false c8
          clear c8
          simp only [Option.some.injEq, Prod.mk.injEq] at H
          obtain ⟨rfl, rfl⟩ := H
          go_wp2
          go_ret2
          exact ⟨_, by first | rfl | (simp [errW_none, errW_some] <;> rfl) | (simp [*, errW_none, errW_some] <;> rfl), by (with_reducible repeat (first | apply Kd.R_alloc | apply Kd.R_drewN | apply Kd.R_drew)); exact HO_6.out, by repeat (first | (with_reducible first | exact HB.out | apply below_alloc | apply pw_below_drewN | apply below_drew1 | refine below_set ?_ GE201.out) | exact HB.out)⟩
  · rw [if_neg c3] at H
    have c3b0 : (t205 == 0) = false := beq_eq_false_iff_ne.mpr c3
    have c3b1 : (t205 != 0) = true := bne_iff_ne.mpr c3
    simp only [Option.some.injEq, Prod.mk.injEq] at H
    obtain ⟨rfl, rfl⟩ := H
    go_enter Try.func33, Try.ntmps33
    go_wp2_with (first | ((with_reducible refine gate_dst (N := 1) rfl ?_); refine box_event ?hg (N := 1) ?hd (cs := #[.int .i64 a0_0, .int .i64 a0_1, .slice A0_2 l0_2.length c0_2, .slice A0_3 l0_3.length c0_3]) (t := 25) ?hr ?_; (case hd => rfl); (case hg => rfl); (case hr => first | (go_simp; done) | (go_simp; rfl)); intro gb201 hg w15 hbox hb; have n0_ := Aside0.mk (below_step (by repeat (first | (with_reducible first | exact HB.out | apply below_alloc | apply pw_below_drewN | apply below_drew1) | exact HB.out)) hb); have n1_ := Aside0.mk (hbox); have n2_ := Aside0.mk ((by rw [hg]; exact (below_size (by repeat (first | (with_reducible first | exact HB.out | apply below_alloc | apply pw_below_drewN | apply below_drew1) | exact HB.out))) : w.heap.size ≤ gb201)); have n3_ := Aside0.mk ((by rw [hg]; exact (below_size (by repeat (first | (with_reducible first | exact HB.out | apply below_alloc | apply pw_below_drewN | apply below_drew1) | exact HB.out))) : w.heap.size ≤ gb201)); clear HB; have HB := n0_; have BK201 := n1_; have GW201 := n2_; have GE201 := n3_; clear n0_ n1_ n2_ n3_; clear hb hbox hg; have hcz16_0 : w15.cell? ⟨gb201, 0, none⟩ = some (.int .i64 a0_0) := (blk_cell BK201.out 0).trans rfl; have hcz16_1 : w15.cell? ⟨gb201, 1, none⟩ = some (.int .i64 a0_1) := (blk_cell BK201.out 1).trans rfl; have hcz16_2 : w15.cell? ⟨gb201, 2, none⟩ = some (.slice A0_2 l0_2.length c0_2) := (blk_cell BK201.out 2).trans rfl; have hcz16_3 : w15.cell? ⟨gb201, 3, none⟩ = some (.slice A0_3 l0_3.length c0_3) := (blk_cell BK201.out 3).trans rfl; have hfz16_0 := blk_frozen BK201.out 0; have hfz16_1 := blk_frozen BK201.out 1; have hfz16_2 := blk_frozen BK201.out 2; have hfz16_3 := blk_frozen BK201.out 3) | ((with_reducible refine gate_callee (f := 17) rfl ?_); refine goesL_ (some 11) rfl rfl Try.func17 (by kernel_rfl) rfl #[.agg #[.int .i64 a0_0, .int .i64 a0_1, .slice A0_2 l0_2.length c0_2, .slice A0_3 l0_3.length c0_3]] rfl (by (try simp only [List.map_toArray, List.map_cons, List.map_nil]); first | done | rfl | (simp only [List.length_drop, List.length_take]; rfl)) ?_; (with_reducible refine (empty_Ends.calls a0_0 a0_1 _ _ l0_2 _ _ l0_3 t202 t205 _ ?side1 ?side2 ?side3 ?side4 A2.out).mono ?_); (case side1 => repeat (first | exact (Kd.C_below HR0_2.out HB.out) | (with_reducible refine Kd.C_alloc ?_ _) | (with_reducible refine Kd.C_drewN ?_ _) | (with_reducible refine Kd.C_drew ?_))); (case side2 => exact HC0_2.out); (case side3 => repeat (first | exact (Kd.C_below HR0_3.out HB.out) | (with_reducible refine Kd.C_alloc ?_ _) | (with_reducible refine Kd.C_drewN ?_ _) | (with_reducible refine Kd.C_drew ?_))); (case side4 => exact HC0_3.out); rintro e w17 ⟨v203, rfl, ho0, hb⟩; refine ⟨_, rfl, ?_⟩; have n0_ := Aside0.mk (Kd.R_lower ho0 (below_size (by repeat (first | (with_reducible first | exact HB.out | apply below_alloc | apply pw_below_drewN | apply below_drew1 | refine below_set ?_ GE201.out) | exact HB.out)))); have n1_ := Aside0.mk (blk_below (g := gb201) (o := .cells #[.int .i64 a0_0, .int .i64 a0_1, .slice A0_2 l0_2.length c0_2, .slice A0_3 l0_3.length c0_3] 25 (0, 0)) (by (with_reducible repeat (first | refine blk_drewN ?_ _ | refine blk_drew ?_ | refine blk_alloc ?_ _)); exact BK201.out) hb); have n2_ := Aside0.mk (below_step (by repeat (first | (with_reducible first | exact HB.out | apply below_alloc | apply pw_below_drewN | apply below_drew1 | refine below_set ?_ GE201.out) | exact HB.out)) hb); clear BK201; clear HB; have HO204 := n0_; have BK201 := n1_; have HB := n2_; clear n0_ n1_ n2_; (try clear hb); (try clear hb2); (try clear hk); (try clear hi); (try clear ho0)))
    go_ret2
    exact ⟨_, by first | rfl | (simp [errW_none, errW_some] <;> rfl) | (simp [*, errW_none, errW_some] <;> rfl), by first | exact Kd.R_nil _ _ _ _ _ | exact Kd.N_nil _ _ _ _ _ | exact Kd.V_nil _ _ _ _ _ | exact Kd.Q_nil _ _ _ _ _ | exact Kd.S_nil _ _ _ _ _, by repeat (first | (with_reducible first | exact HB.out | apply below_alloc | apply pw_below_drewN | apply below_drew1 | refine below_set ?_ GE201.out) | exact HB.out)⟩
def gramaryebase_HasInt.l0 : Nat → List Int → Int → Int → Option (Bool)
  | 0, _, _, _ => none
  | k + 1, x0, x1, x5 => if x5 < (x0.length : Int) then (if 0 ≤ x5 then (if (rd x0 x5) = x1 then (some true) else (gramaryebase_HasInt.l0 k x0 x1 (wrap64 (x5 + 1)))) else (none)) else (some false)
def gramaryebase_HasInt.f (k : Nat) (l0 : List Int) (a1 : Int) : Option (Bool) := gramaryebase_HasInt.l0 k l0 a1 0
set_option maxHeartbeats 8000000 in
set_option maxRecDepth 100000 in
theorem gramaryebase_HasInt.calls (k : Nat) (A0 : Option Addr) (c0 : Nat) (l0 : List Int) (a1 : Int) (r : Bool) (w : World) (hr0 : Kd.C (Kd.int .i64) w A0 l0.length l0) (hc0 : l0.length ≤ c0) (h : gramaryebase_HasInt.f k l0 a1 = some r) :
    Calls Try.prog 54 #[.slice A0 l0.length c0, .int .i64 a1] w fun e w' => e = .returned (.bool r) ∧ Drawn0 w w' := by
  have HR0 := Aside0.mk hr0
  have HC0 := Aside0.mk hc0
  clear hr0 hc0
  have H : (gramaryebase_HasInt.l0 k l0 a1 0) = some r := h
  clear h
  have H' := Aside0.mk H
  clear H
  go_enter Try.func54, Try.ntmps54
  go_wp2
  (try (with_reducible (show Code.wp _ _ _ (Act.put _ _ _) _); go_simp))
  go_loopg [5] k (fun kq v5 w' => ∃ (x5_1 : Int), v5 = .int .i64 x5_1 ∧ Aside0 (gramaryebase_HasInt.l0 kq l0 a1 x5_1 = some r) ∧ Aside0 (kq ≤ k) ∧ Drawn0 w w')
  case atStart => exact ⟨(0), (by first | rfl | (simp; done) | (simp [*]; done)), H', ⟨Nat.le_refl _⟩, by repeat (first | exact Drawn0.refl _ | apply Drawn0.step)⟩
  case round =>
    clear H'
    try clear p2
    obtain ⟨x5_1, rfl, HA, HK1, ⟨m1, rfl⟩⟩ := hrel
    cases gk with
    | zero => exact absurd HA.out (by simp [gramaryebase_HasInt.l0])
    | succ k1 =>
      have H := HA.out
      clear HA
      simp only [gramaryebase_HasInt.l0] at H
      by_cases c3 : x5_1 < (l0.length : Int)
      · rw [if_pos c3] at H
        have c3b0 : decide (x5_1 < (l0.length : Int)) = true := decide_eq_true c3
        clear c3
        by_cases c4 : 0 ≤ x5_1
        · rw [if_pos c4] at H
          have c4b0 : decide (0 ≤ x5_1) = true := decide_eq_true c4
          clear c4
          by_cases c5 : (rd l0 x5_1) = a1
          · rw [if_pos c5] at H
            have c5b0 : ((rd l0 x5_1) == a1) = true := beq_iff_eq.mpr c5
            have c5b1 : ((rd l0 x5_1) != a1) = false := bne_eq_false_iff_eq.mpr c5
            clear c5
            obtain rfl := Option.some.inj H
            have p210 : 0 ≤ (x5_1 : Int) := of_decide_eq_true (by first | (with_reducible assumption) | assumption)
            have q210 : x5_1 < (l0.length : Int) := of_decide_eq_true (by first | (with_reducible assumption) | assumption)
            obtain ⟨ad210, e210, hx210_0⟩ := Kd.at_int HR0.out x5_1 p210 q210
            cases e210
            replace p210 := eq_true p210
            replace q210 := eq_true q210
            go_wp2
            go_ret
            exact ⟨by first | rfl | (simp; done) | (simp [*]; done), by repeat (first | exact Drawn0.refl _ | apply Drawn0.step)⟩
          · rw [if_neg c5] at H
            have c5b0 : ((rd l0 x5_1) == a1) = false := beq_eq_false_iff_ne.mpr c5
            have c5b1 : ((rd l0 x5_1) != a1) = true := bne_iff_ne.mpr c5
            have H' := Aside0.mk H
            clear H
            have p210 : 0 ≤ (x5_1 : Int) := of_decide_eq_true (by first | (with_reducible assumption) | assumption)
            have q210 : x5_1 < (l0.length : Int) := of_decide_eq_true (by first | (with_reducible assumption) | assumption)
            obtain ⟨ad210, e210, hx210_0⟩ := Kd.at_int HR0.out x5_1 p210 q210
            cases e210
            replace p210 := eq_true p210
            replace q210 := eq_true q210
            go_wp2
            go_roundg k1
            case measure => have := HK1.out; omega
            case rel => exact ⟨(wrap64 (x5_1 + 1)), (by first | rfl | (simp; done) | (simp [*]; done)), H', ⟨by have := HK1.out; omega⟩, by repeat (first | exact Drawn0.refl _ | apply Drawn0.step)⟩
        · rw [if_neg c4] at H
          exact absurd H (by simp)
      · rw [if_neg c3] at H
        have c3b0 : decide (x5_1 < (l0.length : Int)) = false := decide_eq_false c3
        clear c3
        obtain rfl := Option.some.inj H
        go_wp2
        go_ret
        exact ⟨by first | rfl | (simp; done) | (simp [*]; done), by repeat (first | exact Drawn0.refl _ | apply Drawn0.step)⟩
def gramaryeref10_row.l0 : Nat → List (S59) → Bool → List Bool → Int → Option (Bool)
  | 0, _, _, _, _ => none
  | k + 1, x0, x1, x2, x7 => if x7 < (x0.length : Int) then (if 0 ≤ x7 then (if (rd_T59 x0 x7).f0 = true then (if x1 = true then (if ((rd_T59 x0 x7).f0 = true) then (gramaryeref10_row.l0 k x0 x1 x2 (wrap64 (x7 + 1))) else (if 0 ≤ ((rd_T59 x0 x7).f1) then (if ((rd_T59 x0 x7).f1) < (x2.length : Int) then (if (rdOf false x2 ((rd_T59 x0 x7).f1) = true) then (gramaryeref10_row.l0 k x0 x1 x2 (wrap64 (x7 + 1))) else (some false)) else (none)) else (none))) else (some false)) else (if ((rd_T59 x0 x7).f0 = true) then (gramaryeref10_row.l0 k x0 x1 x2 (wrap64 (x7 + 1))) else (if 0 ≤ ((rd_T59 x0 x7).f1) then (if ((rd_T59 x0 x7).f1) < (x2.length : Int) then (if (rdOf false x2 ((rd_T59 x0 x7).f1) = true) then (gramaryeref10_row.l0 k x0 x1 x2 (wrap64 (x7 + 1))) else (some false)) else (none)) else (none)))) else (none)) else (some true)
def gramaryeref10_row.f (k : Nat) (l0 : List (S59)) (a1 : Bool) (l2 : List Bool) : Option (Bool) := gramaryeref10_row.l0 k l0 a1 l2 0
set_option maxHeartbeats 8000000 in
set_option maxRecDepth 100000 in
theorem gramaryeref10_row.calls (k : Nat) (A0 : Option Addr) (c0 : Nat) (l0 : List (S59)) (a1 : Bool) (A2 : Option Addr) (c2 : Nat) (l2 : List Bool) (r : Bool) (w : World) (hr0 : Kd.C k59 w A0 l0.length l0) (hc0 : l0.length ≤ c0) (hr2 : Kd.C Kd.bool w A2 l2.length l2) (hc2 : l2.length ≤ c2) (h : gramaryeref10_row.f k l0 a1 l2 = some r) :
    Calls Try.prog 47 #[.slice A0 l0.length c0, .bool a1, .slice A2 l2.length c2] w fun e w' => e = .returned (.bool r) ∧ Drawn0 w w' := by
  have HR0 := Aside0.mk hr0
  have HC0 := Aside0.mk hc0
  clear hr0 hc0
  have HR2 := Aside0.mk hr2
  have HC2 := Aside0.mk hc2
  clear hr2 hc2
  have H : (gramaryeref10_row.l0 k l0 a1 l2 0) = some r := h
  clear h
  have H' := Aside0.mk H
  clear H
  go_enter Try.func47, Try.ntmps47
  go_wp2
  (try (with_reducible (show Code.wp _ _ _ (Act.put _ _ _) _); go_simp))
  go_loopg [7] k (fun kq v7 w' => ∃ (x7_1 : Int), v7 = .int .i64 x7_1 ∧ Aside0 (gramaryeref10_row.l0 kq l0 a1 l2 x7_1 = some r) ∧ Aside0 (kq ≤ k) ∧ Drawn0 w w')
  case atStart => exact ⟨(0), (by first | rfl | (simp; done) | (simp [*]; done)), H', ⟨Nat.le_refl _⟩, by repeat (first | exact Drawn0.refl _ | apply Drawn0.step)⟩
  case round =>
    clear H'
    try clear c2
    try clear p2
    obtain ⟨x7_1, rfl, HA, HK1, ⟨m1, rfl⟩⟩ := hrel
    cases gk with
    | zero => exact absurd HA.out (by simp [gramaryeref10_row.l0])
    | succ k1 =>
      have H := HA.out
      clear HA
      simp only [gramaryeref10_row.l0] at H
      by_cases c4 : x7_1 < (l0.length : Int)
      · rw [if_pos c4] at H
        have c4b0 : decide (x7_1 < (l0.length : Int)) = true := decide_eq_true c4
        clear c4
        by_cases c5 : 0 ≤ x7_1
        · rw [if_pos c5] at H
          have c5b0 : decide (0 ≤ x7_1) = true := decide_eq_true c5
          clear c5
          obtain ⟨bq6, hbq6⟩ : ∃ b_ : Bool, b_ = ((rd_T59 l0 x7_1).f0) := ⟨_, rfl⟩
          replace H : (if bq6 = true then (if a1 = true then (if (bq6 = true) then (gramaryeref10_row.l0 k1 l0 a1 l2 (wrap64 (x7_1 + 1))) else (if 0 ≤ ((rd_T59 l0 x7_1).f1) then (if ((rd_T59 l0 x7_1).f1) < (l2.length : Int) then (if (rdOf false l2 ((rd_T59 l0 x7_1).f1) = true) then (gramaryeref10_row.l0 k1 l0 a1 l2 (wrap64 (x7_1 + 1))) else (some false)) else (none)) else (none))) else (some false)) else (if (bq6 = true) then (gramaryeref10_row.l0 k1 l0 a1 l2 (wrap64 (x7_1 + 1))) else (if 0 ≤ ((rd_T59 l0 x7_1).f1) then (if ((rd_T59 l0 x7_1).f1) < (l2.length : Int) then (if (rdOf false l2 ((rd_T59 l0 x7_1).f1) = true) then (gramaryeref10_row.l0 k1 l0 a1 l2 (wrap64 (x7_1 + 1))) else (some false)) else (none)) else (none)))) = some r := by rw [← hbq6] at H; exact H
          have Nbq6 := Aside0.mk hbq6
          clear hbq6
          by_cases c7 : bq6 = true
          · subst c7
            have H1 : (if a1 = true then (if (true = true) then (gramaryeref10_row.l0 k1 l0 a1 l2 (wrap64 (x7_1 + 1))) else (if 0 ≤ ((rd_T59 l0 x7_1).f1) then (if ((rd_T59 l0 x7_1).f1) < (l2.length : Int) then (if (rdOf false l2 ((rd_T59 l0 x7_1).f1) = true) then (gramaryeref10_row.l0 k1 l0 a1 l2 (wrap64 (x7_1 + 1))) else (some false)) else (none)) else (none))) else (some false)) = some r := by rw [if_pos rfl] at H; exact H
            clear H
            have H := H1
            clear H1
            by_cases c8 : a1 = true
            · subst c8
              have H1 : (if (true = true) then (gramaryeref10_row.l0 k1 l0 true l2 (wrap64 (x7_1 + 1))) else (if 0 ≤ ((rd_T59 l0 x7_1).f1) then (if ((rd_T59 l0 x7_1).f1) < (l2.length : Int) then (if (rdOf false l2 ((rd_T59 l0 x7_1).f1) = true) then (gramaryeref10_row.l0 k1 l0 true l2 (wrap64 (x7_1 + 1))) else (some false)) else (none)) else (none))) = some r := by rw [if_pos rfl] at H; exact H
              clear H
              have H := H1
              clear H1
              by_cases c9 : (true = true)
              · clear c9
                have H1 : (gramaryeref10_row.l0 k1 l0 true l2 (wrap64 (x7_1 + 1))) = some r := by rw [if_pos rfl] at H; exact H
                clear H
                have H := H1
                clear H1
                have H' := Aside0.mk H
                clear H
                have p211 : 0 ≤ (x7_1 : Int) := of_decide_eq_true (by first | (with_reducible assumption) | assumption)
                have q211 : x7_1 < (l0.length : Int) := of_decide_eq_true (by first | (with_reducible assumption) | assumption)
                obtain ⟨ad211, e211, hx211_0, hx211_1⟩ := at_T59 HR0.out x7_1 p211 q211
                (try rw [← Nbq6.out] at hx211_0)
                cases e211
                replace p211 := eq_true p211
                replace q211 := eq_true q211
                have p212 : 0 ≤ (x7_1 : Int) := of_decide_eq_true (by first | (with_reducible assumption) | assumption)
                have q212 : x7_1 < (l0.length : Int) := of_decide_eq_true (by first | (with_reducible assumption) | assumption)
                obtain ⟨ad212, e212, hx212_0, hx212_1⟩ := at_T59 HR0.out x7_1 p212 q212
                (try rw [← Nbq6.out] at hx212_0)
                obtain rfl : ad211 = ad212 := (by injection e212)
                replace p212 := eq_true p212
                replace q212 := eq_true q212
                go_wp2
                go_roundg k1
                case measure => have := HK1.out; omega
                case rel => (try rw [← Nbq6.out]); exact ⟨(wrap64 (x7_1 + 1)), (by first | rfl | (simp; done) | (simp [*]; done)), H', ⟨by have := HK1.out; omega⟩, by repeat (first | exact Drawn0.refl _ | apply Drawn0.step)⟩
              · exact absurd rfl c9
            · replace c8 := Bool.eq_false_iff.mpr c8
              subst c8
              have H1 : (some false) = some r := by rw [if_neg (show ¬ (false = true) by decide)] at H; exact H
              clear H
              have H := H1
              clear H1
              obtain rfl := Option.some.inj H
              have p211 : 0 ≤ (x7_1 : Int) := of_decide_eq_true (by first | (with_reducible assumption) | assumption)
              have q211 : x7_1 < (l0.length : Int) := of_decide_eq_true (by first | (with_reducible assumption) | assumption)
              obtain ⟨ad211, e211, hx211_0, hx211_1⟩ := at_T59 HR0.out x7_1 p211 q211
              (try rw [← Nbq6.out] at hx211_0)
              cases e211
              replace p211 := eq_true p211
              replace q211 := eq_true q211
              go_wp2
              go_ret
              exact ⟨by first | rfl | (simp; done) | (simp [*]; done), by repeat (first | exact Drawn0.refl _ | apply Drawn0.step)⟩
          · replace c7 := Bool.eq_false_iff.mpr c7
            subst c7
            have H1 : (if (false = true) then (gramaryeref10_row.l0 k1 l0 a1 l2 (wrap64 (x7_1 + 1))) else (if 0 ≤ ((rd_T59 l0 x7_1).f1) then (if ((rd_T59 l0 x7_1).f1) < (l2.length : Int) then (if (rdOf false l2 ((rd_T59 l0 x7_1).f1) = true) then (gramaryeref10_row.l0 k1 l0 a1 l2 (wrap64 (x7_1 + 1))) else (some false)) else (none)) else (none))) = some r := by rw [if_neg (show ¬ (false = true) by decide)] at H; exact H
            clear H
            have H := H1
            clear H1
            by_cases c13 : (false = true)
            · exact absurd c13 (by decide)
            · replace c13 := Bool.eq_false_iff.mpr c13
              clear c13
              have H1 : (if 0 ≤ ((rd_T59 l0 x7_1).f1) then (if ((rd_T59 l0 x7_1).f1) < (l2.length : Int) then (if (rdOf false l2 ((rd_T59 l0 x7_1).f1) = true) then (gramaryeref10_row.l0 k1 l0 a1 l2 (wrap64 (x7_1 + 1))) else (some false)) else (none)) else (none)) = some r := by rw [if_neg (show ¬ (false = true) by decide)] at H; exact H
              clear H
              have H := H1
              clear H1
              by_cases c14 : 0 ≤ ((rd_T59 l0 x7_1).f1)
              · rw [if_pos c14] at H
                have c14b0 : decide (0 ≤ ((rd_T59 l0 x7_1).f1)) = true := decide_eq_true c14
                clear c14
                by_cases c15 : ((rd_T59 l0 x7_1).f1) < (l2.length : Int)
                · rw [if_pos c15] at H
                  have c15b0 : decide (((rd_T59 l0 x7_1).f1) < (l2.length : Int)) = true := decide_eq_true c15
                  clear c15
                  obtain ⟨bq16, hbq16⟩ : ∃ b_ : Bool, b_ = (rdOf false l2 ((rd_T59 l0 x7_1).f1)) := ⟨_, rfl⟩
                  replace H : (if (bq16 = true) then (gramaryeref10_row.l0 k1 l0 a1 l2 (wrap64 (x7_1 + 1))) else (some false)) = some r := by rw [← hbq16] at H; exact H
                  have Nbq16 := Aside0.mk hbq16
                  clear hbq16
                  by_cases c17 : (bq16 = true)
                  · subst c17
                    have H1 : (gramaryeref10_row.l0 k1 l0 a1 l2 (wrap64 (x7_1 + 1))) = some r := by rw [if_pos rfl] at H; exact H
                    clear H
                    have H := H1
                    clear H1
                    have H' := Aside0.mk H
                    clear H
                    have p211 : 0 ≤ (x7_1 : Int) := of_decide_eq_true (by first | (with_reducible assumption) | assumption)
                    have q211 : x7_1 < (l0.length : Int) := of_decide_eq_true (by first | (with_reducible assumption) | assumption)
                    obtain ⟨ad211, e211, hx211_0, hx211_1⟩ := at_T59 HR0.out x7_1 p211 q211
                    (try rw [← Nbq6.out] at hx211_0)
                    (try rw [← Nbq16.out] at hx211_0)
                    cases e211
                    replace p211 := eq_true p211
                    replace q211 := eq_true q211
                    have p215 : 0 ≤ (x7_1 : Int) := of_decide_eq_true (by first | (with_reducible assumption) | assumption)
                    have q215 : x7_1 < (l0.length : Int) := of_decide_eq_true (by first | (with_reducible assumption) | assumption)
                    obtain ⟨ad215, e215, hx215_0, hx215_1⟩ := at_T59 HR0.out x7_1 p215 q215
                    (try rw [← Nbq6.out] at hx215_0)
                    (try rw [← Nbq16.out] at hx215_0)
                    obtain rfl : ad211 = ad215 := (by injection e215)
                    replace p215 := eq_true p215
                    replace q215 := eq_true q215
                    have p216 : 0 ≤ (x7_1 : Int) := of_decide_eq_true (by first | (with_reducible assumption) | assumption)
                    have q216 : x7_1 < (l0.length : Int) := of_decide_eq_true (by first | (with_reducible assumption) | assumption)
                    obtain ⟨ad216, e216, hx216_0, hx216_1⟩ := at_T59 HR0.out x7_1 p216 q216
                    (try rw [← Nbq6.out] at hx216_0)
                    (try rw [← Nbq16.out] at hx216_0)
                    obtain rfl : ad211 = ad216 := (by injection e216)
                    replace p216 := eq_true p216
                    replace q216 := eq_true q216
                    have p217 : 0 ≤ (((rd_T59 l0 x7_1).f1) : Int) := of_decide_eq_true (by first | (with_reducible assumption) | assumption)
                    have q217 : ((rd_T59 l0 x7_1).f1) < (l2.length : Int) := of_decide_eq_true (by first | (with_reducible assumption) | assumption)
                    obtain ⟨ad217, e217, hx217_0⟩ := Kd.at_bool HR2.out ((rd_T59 l0 x7_1).f1) p217 q217
                    (try rw [← Nbq6.out] at hx217_0)
                    (try rw [← Nbq16.out] at hx217_0)
                    cases e217
                    replace p217 := eq_true p217
                    replace q217 := eq_true q217
                    go_wp2
                    go_roundg k1
                    case measure => have := HK1.out; omega
                    case rel => (try rw [← Nbq6.out]); (try rw [← Nbq16.out]); exact ⟨(wrap64 (x7_1 + 1)), (by first | rfl | (simp; done) | (simp [*]; done)), H', ⟨by have := HK1.out; omega⟩, by repeat (first | exact Drawn0.refl _ | apply Drawn0.step)⟩
                  · replace c17 := Bool.eq_false_iff.mpr c17
                    subst c17
                    have H1 : (some false) = some r := by rw [if_neg (show ¬ (false = true) by decide)] at H; exact H
                    clear H
                    have H := H1
                    clear H1
                    obtain rfl := Option.some.inj H
                    have p211 : 0 ≤ (x7_1 : Int) := of_decide_eq_true (by first | (with_reducible assumption) | assumption)
                    have q211 : x7_1 < (l0.length : Int) := of_decide_eq_true (by first | (with_reducible assumption) | assumption)
                    obtain ⟨ad211, e211, hx211_0, hx211_1⟩ := at_T59 HR0.out x7_1 p211 q211
                    (try rw [← Nbq6.out] at hx211_0)
                    (try rw [← Nbq16.out] at hx211_0)
                    cases e211
                    replace p211 := eq_true p211
                    replace q211 := eq_true q211
                    have p215 : 0 ≤ (x7_1 : Int) := of_decide_eq_true (by first | (with_reducible assumption) | assumption)
                    have q215 : x7_1 < (l0.length : Int) := of_decide_eq_true (by first | (with_reducible assumption) | assumption)
                    obtain ⟨ad215, e215, hx215_0, hx215_1⟩ := at_T59 HR0.out x7_1 p215 q215
                    (try rw [← Nbq6.out] at hx215_0)
                    (try rw [← Nbq16.out] at hx215_0)
                    obtain rfl : ad211 = ad215 := (by injection e215)
                    replace p215 := eq_true p215
                    replace q215 := eq_true q215
                    have p216 : 0 ≤ (x7_1 : Int) := of_decide_eq_true (by first | (with_reducible assumption) | assumption)
                    have q216 : x7_1 < (l0.length : Int) := of_decide_eq_true (by first | (with_reducible assumption) | assumption)
                    obtain ⟨ad216, e216, hx216_0, hx216_1⟩ := at_T59 HR0.out x7_1 p216 q216
                    (try rw [← Nbq6.out] at hx216_0)
                    (try rw [← Nbq16.out] at hx216_0)
                    obtain rfl : ad211 = ad216 := (by injection e216)
                    replace p216 := eq_true p216
                    replace q216 := eq_true q216
                    have p217 : 0 ≤ (((rd_T59 l0 x7_1).f1) : Int) := of_decide_eq_true (by first | (with_reducible assumption) | assumption)
                    have q217 : ((rd_T59 l0 x7_1).f1) < (l2.length : Int) := of_decide_eq_true (by first | (with_reducible assumption) | assumption)
                    obtain ⟨ad217, e217, hx217_0⟩ := Kd.at_bool HR2.out ((rd_T59 l0 x7_1).f1) p217 q217
                    (try rw [← Nbq6.out] at hx217_0)
                    (try rw [← Nbq16.out] at hx217_0)
                    cases e217
                    replace p217 := eq_true p217
                    replace q217 := eq_true q217
                    go_wp2
                    go_ret
                    exact ⟨by first | rfl | (simp; done) | (simp [*]; done), by repeat (first | exact Drawn0.refl _ | apply Drawn0.step)⟩
                · rw [if_neg c15] at H
                  exact absurd H (by simp)
              · rw [if_neg c14] at H
                exact absurd H (by simp)
        · rw [if_neg c5] at H
          exact absurd H (by simp)
      · rw [if_neg c4] at H
        have c4b0 : decide (x7_1 < (l0.length : Int)) = false := decide_eq_false c4
        clear c4
        obtain rfl := Option.some.inj H
        go_wp2
        go_ret
        exact ⟨by first | rfl | (simp; done) | (simp [*]; done), by repeat (first | exact Drawn0.refl _ | apply Drawn0.step)⟩
end Go.Proofs.Ytmpdilifoblnaaa.MReachTells
end
section
namespace Go.Proofs.Ytmpdilifoblnaaa.MReachTells
open Go.RowKit Go.Proofs.YtmpdilifoblnaaaW.PrintWords Go.Proofs.YtmpdilifoblnaaaW.PrintLast Go.Proofs.YtmpdilifoblnaaaW.PrintMore Go.Proofs.Ytmpdilifoblnaaa.Fun Go.Proofs.Ytmpdilifoblnaaa.Mem
attribute [local go_sem] max2_int min2_int max_two min_two max_three min_three max_four min_four
set_option linter.unusedVariables false
set_option linter.unusedSimpArgs false
mutual
def gramaryeref10_mark.l0 : Nat → Bool → List Bool → Bool → Int → Int → List Int → List (S51) → Option (List Bool)
  | 0, _, _, _, _, _, _, _ => none
  | k + 1, x1, x5, x6, x219000, x219001, x219002, x219003 => if x6 = true then (gramaryeref10_mark.l1 k x1 x5 false 0 x219000 x219001 x219002 x219003) else (some x5)
def gramaryeref10_mark.l1 : Nat → Bool → List Bool → Bool → Int → Int → Int → List Int → List (S51) → Option (List Bool)
  | 0, _, _, _, _, _, _, _, _ => none
  | k + 1, x1, x5, x6, x7, x219000, x219001, x219002, x219003 => if x7 < (x219003.length : Int) then (if 0 ≤ x7 then (if 0 ≤ ((rd_T51 x219003 x7).f0) then (if ((rd_T51 x219003 x7).f0) < (x5.length : Int) then (if (rdOf false x5 ((rd_T51 x219003 x7).f0) = true) then (gramaryeref10_mark.l1 k x1 x5 x6 (wrap64 (x7 + 1)) x219000 x219001 x219002 x219003) else ((gramaryeref10_row.f k ((rd_T51 x219003 x7).f1) x1 x5).bind fun t225 => (if t225 = true then (gramaryeref10_mark.l1 k x1 (x5.set (((rd_T51 x219003 x7).f0) : Int).toNat true) true (wrap64 (x7 + 1)) x219000 x219001 x219002 x219003) else (gramaryeref10_mark.l1 k x1 x5 x6 (wrap64 (x7 + 1)) x219000 x219001 x219002 x219003)))) else (none)) else (none)) else (none)) else (gramaryeref10_mark.l0 k x1 x5 x6 x219000 x219001 x219002 x219003)
end
def gramaryeref10_mark.f (k : Nat) (a0_0 : Int) (a0_1 : Int) (l0_2 : List Int) (l0_3 : List (S51)) (a1 : Bool) : Option (List Bool) := if 0 ≤ (l0_2.length : Int) then (if ((l0_2.length : Int) : Int).toNat ≤ 281474976710656 then (gramaryeref10_mark.l0 k a1 (List.replicate ((l0_2.length : Int) : Int).toNat false) true a0_0 a0_1 l0_2 l0_3) else (none)) else (none)
set_option maxHeartbeats 8000000 in
set_option maxRecDepth 100000 in
theorem gramaryeref10_mark.calls (k : Nat) (a0_0 : Int) (a0_1 : Int) (A0_2 : Option Addr) (c0_2 : Nat) (l0_2 : List Int) (A0_3 : Option Addr) (c0_3 : Nat) (l0_3 : List (S51)) (a1 : Bool) (r : List Bool) (w : World) (hr0_2 : Kd.C (Kd.int .i64) w A0_2 l0_2.length l0_2) (hc0_2 : l0_2.length ≤ c0_2) (hr0_3 : Kd.C k51 w A0_3 l0_3.length l0_3) (hc0_3 : l0_3.length ≤ c0_3) (h : gramaryeref10_mark.f k a0_0 a0_1 l0_2 l0_3 a1 = some r) :
    Calls Try.prog 48 #[.agg #[.int .i64 a0_0, .int .i64 a0_1, .slice A0_2 l0_2.length c0_2, .slice A0_3 l0_3.length c0_3], .bool a1] w fun e w' => ∃ v0_ : Value, e = .returned (v0_) ∧ Kd.R Kd.bool 4 w' w.heap.size (fun _ => True) v0_ r ∧ Below w.heap.size w w' := by
  have hu25 := Try.underlying25
  have HR0_2 := Aside0.mk hr0_2
  have HC0_2 := Aside0.mk hc0_2
  clear hr0_2 hc0_2
  have HR0_3 := Aside0.mk hr0_3
  have HC0_3 := Aside0.mk hc0_3
  clear hr0_3 hc0_3
  have HB := Aside0.mk (Below.refl w.heap.size w)
  have H : (if 0 ≤ (l0_2.length : Int) then (if ((l0_2.length : Int) : Int).toNat ≤ 281474976710656 then (gramaryeref10_mark.l0 k a1 (List.replicate ((l0_2.length : Int) : Int).toNat false) true a0_0 a0_1 l0_2 l0_3) else (none)) else (none)) = some r := h
  clear h
  by_cases c3 : 0 ≤ (l0_2.length : Int)
  · rw [if_pos c3] at H
    have c3b0 := eq_true c3
    have c3b1 : decide (0 ≤ (l0_2.length : Int)) = true := decide_eq_true c3
    clear c3
    by_cases c4 : ((l0_2.length : Int) : Int).toNat ≤ 281474976710656
    · rw [if_pos c4] at H
      have c4b0 := eq_true c4
      have c4b1 : decide (((l0_2.length : Int) : Int).toNat ≤ 281474976710656) = true := decide_eq_true c4
      clear c4
      obtain ⟨y219, hy219⟩ : ∃ y_ : List Bool, y_ = (List.replicate ((l0_2.length : Int) : Int).toNat false) := ⟨_, rfl⟩
      replace H : (gramaryeref10_mark.l0 k a1 y219 true a0_0 a0_1 l0_2 l0_3) = some r := by first | (rw [hy219]; with_reducible exact H) | (have H2_ := (Option.bind_some _ _).symm.trans H; rw [hy219]; with_reducible exact H2_) | (have H2_ := (Option.bind_some _ _).symm.trans H; with_reducible exact H2_) | with_reducible exact H | (rw [hy219]; exact H) | exact H
      have Ny219 := Aside0.mk hy219
      clear hy219
      have H' := Aside0.mk H
      clear H
      go_enter Try.func48, Try.ntmps48
      go_wp2_with (first | ((with_reducible refine gate_dst (N := 2) rfl ?_); refine box_event ?hg (N := 2) ?hd (cs := #[.int .i64 a0_0, .int .i64 a0_1, .slice A0_2 l0_2.length c0_2, .slice A0_3 l0_3.length c0_3]) (t := 25) ?hr ?_; (case hd => rfl); (case hg => rfl); (case hr => first | (go_simp; done) | (go_simp; rfl)); intro gb218 hg w5 hbox hb; have n0_ := Aside0.mk (below_step (by repeat (first | (with_reducible first | exact HB.out | apply below_alloc | apply pw_below_drewN | apply below_drew1) | exact HB.out)) hb); have n1_ := Aside0.mk (hbox); have n2_ := Aside0.mk ((by rw [hg]; exact (below_size (by repeat (first | (with_reducible first | exact HB.out | apply below_alloc | apply pw_below_drewN | apply below_drew1) | exact HB.out))) : w.heap.size ≤ gb218)); have n3_ := Aside0.mk ((by rw [hg]; exact (below_size (by repeat (first | (with_reducible first | exact HB.out | apply below_alloc | apply pw_below_drewN | apply below_drew1) | exact HB.out))) : w.heap.size ≤ gb218)); clear HB; have HB := n0_; have BK218 := n1_; have GW218 := n2_; have GE218 := n3_; clear n0_ n1_ n2_ n3_; clear hb hbox hg; have hcz6_0 : w5.cell? ⟨gb218, 0, none⟩ = some (.int .i64 a0_0) := (blk_cell BK218.out 0).trans rfl; have hcz6_1 : w5.cell? ⟨gb218, 1, none⟩ = some (.int .i64 a0_1) := (blk_cell BK218.out 1).trans rfl; have hcz6_2 : w5.cell? ⟨gb218, 2, none⟩ = some (.slice A0_2 l0_2.length c0_2) := (blk_cell BK218.out 2).trans rfl; have hcz6_3 : w5.cell? ⟨gb218, 3, none⟩ = some (.slice A0_3 l0_3.length c0_3) := (blk_cell BK218.out 3).trans rfl; have hfz6_0 := blk_frozen BK218.out 0; have hfz6_1 := blk_frozen BK218.out 1; have hfz6_2 := blk_frozen BK218.out 2; have hfz6_3 := blk_frozen BK218.out 3) | ((with_reducible refine gate_dst (N := 11) rfl ?_); refine Kd.R_make Kd.bool _ 4 rfl (N := 11) rfl 35 _ _ rfl (l0_2.length : Int) rfl rfl Try.underlying35 (.bool false) 1 info4 rfl (by decide) (by omega) false (ok := fun _ => True) (okp := fun _ => True) rfl (fun _ hk => hk) trivial (of_decide_eq_true (by first | (with_reducible assumption) | assumption)) (Nat.le_trans (Nat.mul_le_mul_right _ (of_decide_eq_true (by first | (with_reducible assumption) | assumption) : (l0_2.length : Int).toNat ≤ 281474976710656)) (by omega)) (Below.refl _ _) (Nat.le_refl _) ?_; intro v220 w7 ho8 hb hg_ hnew_; clear hg_ hnew_; (first | rw [← Ny219.out] at ho8 | (simp only [Int.reduceToNat] at ho8; rw [← Ny219.out] at ho8)); have n0_ := Aside0.mk (Kd.R_lower ho8 (below_size (by repeat (first | (with_reducible first | exact HB.out | apply below_alloc | apply pw_below_drewN | apply below_drew1 | refine below_set ?_ GE218.out) | exact HB.out)))); have n1_ := Aside0.mk (blk_below (g := gb218) (o := .cells #[.int .i64 a0_0, .int .i64 a0_1, .slice A0_2 l0_2.length c0_2, .slice A0_3 l0_3.length c0_3] 25 (0, 0)) (by (with_reducible repeat (first | refine blk_drewN ?_ _ | refine blk_drew ?_ | refine blk_alloc ?_ _)); exact BK218.out) hb); have n2_ := Aside0.mk (below_step (by repeat (first | (with_reducible first | exact HB.out | apply below_alloc | apply pw_below_drewN | apply below_drew1 | refine below_set ?_ GE218.out) | exact HB.out)) hb); clear BK218; clear HB; have HO221 := n0_; have BK218 := n1_; have HB := n2_; clear n0_ n1_ n2_; clear hb ho8))
      (try (with_reducible (show Code.wp _ _ _ (Act.put _ _ _) _); go_simp))
      go_loopg [6] k (fun kq v6 w' => ∃ (x5_1 : List Bool) (x6_1 : Bool), v6 = .bool x6_1 ∧ Aside0 (gramaryeref10_mark.l0 kq a1 x5_1 x6_1 a0_0 a0_1 l0_2 l0_3 = some r) ∧ Aside0 (kq ≤ k) ∧ Aside0 (Kd.R Kd.bool 4 w' w.heap.size (fun _ => True) v220 x5_1) ∧ Aside0 (w'.heap[gb218]? = some (.cells #[.int .i64 a0_0, .int .i64 a0_1, (.slice A0_2 l0_2.length c0_2), (.slice A0_3 l0_3.length c0_3)] 25 (0, 0))) ∧ Aside0 (Below w.heap.size w w'))
      case atStart => exact ⟨(y219), (true), (by first | rfl | (simp; done) | (simp [*]; done)), H', ⟨Nat.le_refl _⟩, ⟨by (with_reducible repeat (first | apply Kd.R_alloc | apply Kd.R_drewN | apply Kd.R_drew)); exact HO221.out⟩, ⟨by (with_reducible repeat (first | refine blk_drewN ?_ _ | refine blk_drew ?_ | refine blk_alloc ?_ _)); exact BK218.out⟩, ⟨by repeat (first | (with_reducible first | exact HB.out | apply below_alloc | apply pw_below_drewN | apply below_drew1 | refine below_set ?_ GE218.out) | exact HB.out)⟩⟩
      case round =>
        clear H'
        try clear p2
        try clear c3
        try clear c3b0
        try clear c3b1
        try clear c4
        try clear c4b0
        try clear c4b1
        try clear hcz6_0
        try clear hcz6_1
        try clear hcz6_2
        try clear hcz6_3
        try clear hfz6_0
        try clear hfz6_1
        try clear hfz6_2
        try clear hfz6_3
        obtain ⟨x5_1, x6_1, rfl, HA, HK1, HO_5, BK218, HB⟩ := hrel
        cases gk with
        | zero => exact absurd HA.out (by simp [gramaryeref10_mark.l0])
        | succ k1 =>
          have H := HA.out
          clear HA
          simp only [gramaryeref10_mark.l0] at H
          by_cases c9 : x6_1 = true
          · subst c9
            have H1 : (gramaryeref10_mark.l1 k1 a1 x5_1 false 0 a0_0 a0_1 l0_2 l0_3) = some r := by rw [if_pos rfl] at H; exact H
            clear H
            have H := H1
            clear H1
            have H' := Aside0.mk H
            clear H
            go_wp2
            (try (with_reducible (show Code.wp _ _ _ (Act.put _ _ _) _); go_simp))
            go_loopg [6, 7] k1 (fun kq v6 v7 w' => ∃ (x5_2 : List Bool) (x6_2 : Bool) (x7_2 : Int), v6 = .bool x6_2 ∧ v7 = .int .i64 x7_2 ∧ Aside0 (gramaryeref10_mark.l1 kq a1 x5_2 x6_2 x7_2 a0_0 a0_1 l0_2 l0_3 = some r) ∧ Aside0 (kq ≤ k1) ∧ Aside0 (Kd.R Kd.bool 4 w' w.heap.size (fun _ => True) v220 x5_2) ∧ Aside0 (w'.heap[gb218]? = some (.cells #[.int .i64 a0_0, .int .i64 a0_1, (.slice A0_2 l0_2.length c0_2), (.slice A0_3 l0_3.length c0_3)] 25 (0, 0))) ∧ Aside0 (Below w.heap.size w w'))
            case atStart => exact ⟨(x5_1), (false), (0), (by first | rfl | (simp; done) | (simp [*]; done)), (by first | rfl | (simp; done) | (simp [*]; done)), H', ⟨Nat.le_refl _⟩, ⟨by (with_reducible repeat (first | apply Kd.R_alloc | apply Kd.R_drewN | apply Kd.R_drew)); exact HO_5.out⟩, ⟨by (with_reducible repeat (first | refine blk_drewN ?_ _ | refine blk_drew ?_ | refine blk_alloc ?_ _)); exact BK218.out⟩, ⟨by repeat (first | (with_reducible first | exact HB.out | apply below_alloc | apply pw_below_drewN | apply below_drew1 | refine below_set ?_ GE218.out) | exact HB.out)⟩⟩
            case round =>
              clear H'
              try clear p2
              try clear c3
              try clear c3b0
              try clear c3b1
              try clear c4
              try clear c4b0
              try clear c4b1
              try clear c9
              try clear hcz6_0
              try clear hcz6_1
              try clear hcz6_2
              try clear hcz6_3
              try clear hfz6_0
              try clear hfz6_1
              try clear hfz6_2
              try clear hfz6_3
              try clear p2
              obtain ⟨x5_2, x6_2, x7_2, rfl, rfl, HA, HK2, HO_5, BK218, HB⟩ := hrel
              cases gk with
              | zero => exact absurd HA.out (by simp [gramaryeref10_mark.l1])
              | succ k2 =>
                have H := HA.out
                clear HA
                simp only [gramaryeref10_mark.l1] at H
                by_cases c10 : x7_2 < (l0_3.length : Int)
                · rw [if_pos c10] at H
                  have c10b0 : decide (x7_2 < (l0_3.length : Int)) = true := decide_eq_true c10
                  clear c10
                  by_cases c11 : 0 ≤ x7_2
                  · rw [if_pos c11] at H
                    have c11b0 : decide (0 ≤ x7_2) = true := decide_eq_true c11
                    clear c11
                    by_cases c12 : 0 ≤ ((rd_T51 l0_3 x7_2).f0)
                    · rw [if_pos c12] at H
                      have c12b0 : decide (0 ≤ ((rd_T51 l0_3 x7_2).f0)) = true := decide_eq_true c12
                      clear c12
                      by_cases c13 : ((rd_T51 l0_3 x7_2).f0) < (x5_2.length : Int)
                      · rw [if_pos c13] at H
                        have c13b0 : decide (((rd_T51 l0_3 x7_2).f0) < (x5_2.length : Int)) = true := decide_eq_true c13
                        clear c13
                        obtain ⟨bq14, hbq14⟩ : ∃ b_ : Bool, b_ = (rdOf false x5_2 ((rd_T51 l0_3 x7_2).f0)) := ⟨_, rfl⟩
                        replace H : (if (bq14 = true) then (gramaryeref10_mark.l1 k2 a1 x5_2 x6_2 (wrap64 (x7_2 + 1)) a0_0 a0_1 l0_2 l0_3) else ((gramaryeref10_row.f k2 ((rd_T51 l0_3 x7_2).f1) a1 x5_2).bind fun t225 => (if t225 = true then (gramaryeref10_mark.l1 k2 a1 (x5_2.set (((rd_T51 l0_3 x7_2).f0) : Int).toNat true) true (wrap64 (x7_2 + 1)) a0_0 a0_1 l0_2 l0_3) else (gramaryeref10_mark.l1 k2 a1 x5_2 x6_2 (wrap64 (x7_2 + 1)) a0_0 a0_1 l0_2 l0_3)))) = some r := by rw [← hbq14] at H; exact H
                        have Nbq14 := Aside0.mk hbq14
                        clear hbq14
                        by_cases c15 : (bq14 = true)
                        · subst c15
                          have H1 : (gramaryeref10_mark.l1 k2 a1 x5_2 x6_2 (wrap64 (x7_2 + 1)) a0_0 a0_1 l0_2 l0_3) = some r := by rw [if_pos rfl] at H; exact H
                          clear H
                          have H := H1
                          clear H1
                          have H' := Aside0.mk H
                          clear H
                          have hcz16_0 : wr.cell? ⟨gb218, 0, none⟩ = some (.int .i64 a0_0) := (blk_cell BK218.out 0).trans rfl
                          have hcz16_1 : wr.cell? ⟨gb218, 1, none⟩ = some (.int .i64 a0_1) := (blk_cell BK218.out 1).trans rfl
                          have hcz16_2 : wr.cell? ⟨gb218, 2, none⟩ = some (.slice A0_2 l0_2.length c0_2) := (blk_cell BK218.out 2).trans rfl
                          have hcz16_3 : wr.cell? ⟨gb218, 3, none⟩ = some (.slice A0_3 l0_3.length c0_3) := (blk_cell BK218.out 3).trans rfl
                          have hfz16_0 := blk_frozen BK218.out 0
                          have hfz16_1 := blk_frozen BK218.out 1
                          have hfz16_2 := blk_frozen BK218.out 2
                          have hfz16_3 := blk_frozen BK218.out 3
                          have p222 : 0 ≤ (x7_2 : Int) := of_decide_eq_true (by first | (with_reducible assumption) | assumption)
                          have q222 : x7_2 < (l0_3.length : Int) := of_decide_eq_true (by first | (with_reducible assumption) | assumption)
                          obtain ⟨ad222, A222_1, c222_1, e222, hx222_0, hx222_1, hl222_1, hi222_1⟩ := at_T51 HR0_3.out x7_2 p222 q222
                          cases e222
                          have Nhx222_0 := Aside0.mk hx222_0; replace hx222_0 := (HB.out.cell (World.block_lt_of_cell? w _ hx222_0)).trans hx222_0
                          have Nhx222_1 := Aside0.mk hx222_1; replace hx222_1 := (HB.out.cell (World.block_lt_of_cell? w _ hx222_1)).trans hx222_1
                          have HR222_1 := Aside0.mk hi222_1
                          have HC222_1 := Aside0.mk hl222_1
                          clear hi222_1 hl222_1
                          replace p222 := eq_true p222
                          replace q222 := eq_true q222
                          obtain ⟨Ao17, co17, eo17⟩ := Kd.R_slice HO_5.out
                          subst eo17
                          have p223 : 0 ≤ (((rd_T51 l0_3 x7_2).f0) : Int) := of_decide_eq_true (by first | (with_reducible assumption) | assumption)
                          have q223 : ((rd_T51 l0_3 x7_2).f0) < (x5_2.length : Int) := of_decide_eq_true (by first | (with_reducible assumption) | assumption)
                          obtain ⟨ad223, e223, hx223_0⟩ := Kd.at_bool (Kd.R_reads' HO_5.out).2.2 ((rd_T51 l0_3 x7_2).f0) p223 q223
                          (try rw [← Nbq14.out] at hx223_0)
                          cases e223
                          replace p223 := eq_true p223
                          replace q223 := eq_true q223
                          go_wp2
                          go_roundg k2
                          case measure => have := HK1.out; have := HK2.out; omega
                          case rel => (try rw [← Nbq14.out]); exact ⟨(x5_2), (x6_2), (wrap64 (x7_2 + 1)), (by first | rfl | (simp; done) | (simp [*]; done)), (by first | rfl | (simp; done) | (simp [*]; done)), H', ⟨by have := HK1.out; have := HK2.out; omega⟩, ⟨by (with_reducible repeat (first | apply Kd.R_alloc | apply Kd.R_drewN | apply Kd.R_drew)); exact HO_5.out⟩, ⟨by (with_reducible repeat (first | refine blk_drewN ?_ _ | refine blk_drew ?_ | refine blk_alloc ?_ _)); exact BK218.out⟩, ⟨by repeat (first | (with_reducible first | exact HB.out | apply below_alloc | apply pw_below_drewN | apply below_drew1 | refine below_set ?_ GE218.out) | exact HB.out)⟩⟩
                        · replace c15 := Bool.eq_false_iff.mpr c15
                          subst c15
                          have H1 : ((gramaryeref10_row.f k2 ((rd_T51 l0_3 x7_2).f1) a1 x5_2).bind fun t225 => (if t225 = true then (gramaryeref10_mark.l1 k2 a1 (x5_2.set (((rd_T51 l0_3 x7_2).f0) : Int).toNat true) true (wrap64 (x7_2 + 1)) a0_0 a0_1 l0_2 l0_3) else (gramaryeref10_mark.l1 k2 a1 x5_2 x6_2 (wrap64 (x7_2 + 1)) a0_0 a0_1 l0_2 l0_3))) = some r := by rw [if_neg (show ¬ (false = true) by decide)] at H; exact H
                          clear H
                          have H := H1
                          clear H1
                          replace H := Option.bind_eq_some_iff.mp H
                          obtain ⟨t225, A180, H⟩ := H
                          replace H : (if t225 = true then (gramaryeref10_mark.l1 k2 a1 (x5_2.set (((rd_T51 l0_3 x7_2).f0) : Int).toNat true) true (wrap64 (x7_2 + 1)) a0_0 a0_1 l0_2 l0_3) else (gramaryeref10_mark.l1 k2 a1 x5_2 x6_2 (wrap64 (x7_2 + 1)) a0_0 a0_1 l0_2 l0_3)) = some r := H
                          have A18 := Aside0.mk A180
                          clear A180
                          by_cases c19 : t225 = true
                          · subst c19
                            have H1 : (gramaryeref10_mark.l1 k2 a1 (x5_2.set (((rd_T51 l0_3 x7_2).f0) : Int).toNat true) true (wrap64 (x7_2 + 1)) a0_0 a0_1 l0_2 l0_3) = some r := by rw [if_pos rfl] at H; exact H
                            clear H
                            have H := H1
                            clear H1
                            obtain ⟨y227, hy227⟩ : ∃ y_ : List Bool, y_ = (x5_2.set (((rd_T51 l0_3 x7_2).f0) : Int).toNat true) := ⟨_, rfl⟩
                            replace H : (gramaryeref10_mark.l1 k2 a1 y227 true (wrap64 (x7_2 + 1)) a0_0 a0_1 l0_2 l0_3) = some r := by first | (rw [hy227]; with_reducible exact H) | (have H2_ := (Option.bind_some _ _).symm.trans H; rw [hy227]; with_reducible exact H2_) | (have H2_ := (Option.bind_some _ _).symm.trans H; with_reducible exact H2_) | with_reducible exact H | (rw [hy227]; exact H) | exact H
                            have Ny227 := Aside0.mk hy227
                            clear hy227
                            have H' := Aside0.mk H
                            clear H
                            have hcz21_0 : wr.cell? ⟨gb218, 0, none⟩ = some (.int .i64 a0_0) := (blk_cell BK218.out 0).trans rfl
                            have hcz21_1 : wr.cell? ⟨gb218, 1, none⟩ = some (.int .i64 a0_1) := (blk_cell BK218.out 1).trans rfl
                            have hcz21_2 : wr.cell? ⟨gb218, 2, none⟩ = some (.slice A0_2 l0_2.length c0_2) := (blk_cell BK218.out 2).trans rfl
                            have hcz21_3 : wr.cell? ⟨gb218, 3, none⟩ = some (.slice A0_3 l0_3.length c0_3) := (blk_cell BK218.out 3).trans rfl
                            have hfz21_0 := blk_frozen BK218.out 0
                            have hfz21_1 := blk_frozen BK218.out 1
                            have hfz21_2 := blk_frozen BK218.out 2
                            have hfz21_3 := blk_frozen BK218.out 3
                            have p222 : 0 ≤ (x7_2 : Int) := of_decide_eq_true (by first | (with_reducible assumption) | assumption)
                            have q222 : x7_2 < (l0_3.length : Int) := of_decide_eq_true (by first | (with_reducible assumption) | assumption)
                            obtain ⟨ad222, A222_1, c222_1, e222, hx222_0, hx222_1, hl222_1, hi222_1⟩ := at_T51 HR0_3.out x7_2 p222 q222
                            cases e222
                            have Nhx222_0 := Aside0.mk hx222_0; replace hx222_0 := (HB.out.cell (World.block_lt_of_cell? w _ hx222_0)).trans hx222_0
                            have Nhx222_1 := Aside0.mk hx222_1; replace hx222_1 := (HB.out.cell (World.block_lt_of_cell? w _ hx222_1)).trans hx222_1
                            have HR222_1 := Aside0.mk hi222_1
                            have HC222_1 := Aside0.mk hl222_1
                            clear hi222_1 hl222_1
                            replace p222 := eq_true p222
                            replace q222 := eq_true q222
                            obtain ⟨Ao22, co22, eo22⟩ := Kd.R_slice HO_5.out
                            subst eo22
                            have p223 : 0 ≤ (((rd_T51 l0_3 x7_2).f0) : Int) := of_decide_eq_true (by first | (with_reducible assumption) | assumption)
                            have q223 : ((rd_T51 l0_3 x7_2).f0) < (x5_2.length : Int) := of_decide_eq_true (by first | (with_reducible assumption) | assumption)
                            obtain ⟨ad223, e223, hx223_0⟩ := Kd.at_bool (Kd.R_reads' HO_5.out).2.2 ((rd_T51 l0_3 x7_2).f0) p223 q223
                            (try rw [← Nbq14.out] at hx223_0)
                            cases e223
                            replace p223 := eq_true p223
                            replace q223 := eq_true q223
                            have p224 : 0 ≤ (x7_2 : Int) := of_decide_eq_true (by first | (with_reducible assumption) | assumption)
                            have q224 : x7_2 < (l0_3.length : Int) := of_decide_eq_true (by first | (with_reducible assumption) | assumption)
                            obtain ⟨ad224, A224_1, c224_1, e224, hx224_0, hx224_1, hl224_1, hi224_1⟩ := at_T51 HR0_3.out x7_2 p224 q224
                            obtain rfl : ad222 = ad224 := (by injection e224)
                            have Nhx224_0 := Aside0.mk hx224_0; replace hx224_0 := (HB.out.cell (World.block_lt_of_cell? w _ hx224_0)).trans hx224_0
                            have Nhx224_1 := Aside0.mk hx224_1; replace hx224_1 := (HB.out.cell (World.block_lt_of_cell? w _ hx224_1)).trans hx224_1
                            have HR224_1 := Aside0.mk hi224_1
                            have HC224_1 := Aside0.mk hl224_1
                            clear hi224_1 hl224_1
                            replace p224 := eq_true p224
                            replace q224 := eq_true q224
                            (first | (have ea_ := Option.some.inj (hx222_1.symm.trans hx224_1)) | (have ea_ := Option.some.inj (Nhx222_1.out.symm.trans Nhx224_1.out)))
                            injection ea_ with ea_ en_ ec_
                            subst ea_
                            subst ec_
                            clear en_
                            go_wp2_with (first | (go_at_call 47; (with_reducible refine (gramaryeref10_row.calls k2 _ _ ((rd_T51 l0_3 x7_2).f1) a1 _ _ x5_2 true _ ?side1 ?side2 ?side3 ?side4 A18.out).mono ?_); (case side1 => repeat (first | exact (Kd.C_below HR224_1.out HB.out) | (with_reducible refine Kd.C_alloc ?_ _) | (with_reducible refine Kd.C_drewN ?_ _) | (with_reducible refine Kd.C_drew ?_))); (case side2 => exact HC224_1.out); (case side3 => repeat (first | exact (Kd.R_reads' HO_5.out).2.2 | (with_reducible refine Kd.C_alloc ?_ _) | (with_reducible refine Kd.C_drewN ?_ _) | (with_reducible refine Kd.C_drew ?_))); (case side4 => exact (Kd.R_reads' HO_5.out).2.1); rintro e w' ⟨rfl, ⟨nd, rfl⟩⟩; (try (rw [drewN_self wr]; generalize hq_ : World.drewN wr _ = wr; have n0_ : Aside0 (Kd.R Kd.bool 4 wr w.heap.size (fun _ => True) (.slice (some ad223) x5_2.length co22) x5_2) := ⟨by rw [← hq_]; exact (by (with_reducible repeat (first | apply Kd.R_alloc | apply Kd.R_drewN | apply Kd.R_drew)); exact HO_5.out)⟩; have n1_ : Aside0 (wr.heap[gb218]? = some (.cells #[.int .i64 a0_0, .int .i64 a0_1, .slice A0_2 l0_2.length c0_2, .slice (some ad222) l0_3.length c0_3] 25 (0, 0))) := ⟨by rw [← hq_]; exact (by (with_reducible repeat (first | refine blk_drewN ?_ _ | refine blk_drew ?_ | refine blk_alloc ?_ _)); exact BK218.out)⟩; have n2_ : Aside0 (Below w.heap.size w wr) := ⟨by rw [← hq_]; exact (by repeat (first | (with_reducible first | exact HB.out | apply below_alloc | apply pw_below_drewN | apply below_drew1 | refine below_set ?_ GE218.out) | exact HB.out))⟩; clear HO_5 BK218 HB hq_; have HO_5 := n0_; have BK218 := n1_; have HB := n2_; clear n0_ n1_ n2_)); (try (replace hcz21_0 : wr.cell? ⟨gb218, 0, none⟩ = some _ := (blk_cell BK218.out 0).trans rfl)); (try (replace hcz21_1 : wr.cell? ⟨gb218, 1, none⟩ = some _ := (blk_cell BK218.out 1).trans rfl)); (try (replace hcz21_2 : wr.cell? ⟨gb218, 2, none⟩ = some _ := (blk_cell BK218.out 2).trans rfl)); (try (replace hcz21_3 : wr.cell? ⟨gb218, 3, none⟩ = some _ := (blk_cell BK218.out 3).trans rfl)); have p226 : 0 ≤ (x7_2 : Int) := of_decide_eq_true (by first | (with_reducible assumption) | assumption); have q226 : x7_2 < (l0_3.length : Int) := of_decide_eq_true (by first | (with_reducible assumption) | assumption); obtain ⟨ad226, A226_1, c226_1, e226, hx226_0, hx226_1, hl226_1, hi226_1⟩ := at_T51 HR0_3.out x7_2 p226 q226; obtain rfl : ad222 = ad226 := (by injection e226); have Nhx226_0 := Aside0.mk hx226_0; replace hx226_0 := (HB.out.cell (World.block_lt_of_cell? w _ hx226_0)).trans hx226_0; have Nhx226_1 := Aside0.mk hx226_1; replace hx226_1 := (HB.out.cell (World.block_lt_of_cell? w _ hx226_1)).trans hx226_1; have HR226_1 := Aside0.mk hi226_1; have HC226_1 := Aside0.mk hl226_1; clear hi226_1 hl226_1; replace p226 := eq_true p226; replace q226 := eq_true q226; (first | (have ea_ := Option.some.inj (hx222_1.symm.trans hx226_1)) | (have ea_ := Option.some.inj (Nhx222_1.out.symm.trans Nhx226_1.out))); injection ea_ with ea_ en_ ec_; subst ea_; subst ec_; clear en_; have p20 : 0 ≤ (((rd_T51 l0_3 x7_2).f0) : Int) := of_decide_eq_true (by first | (with_reducible assumption) | assumption); have q20 : (((rd_T51 l0_3 x7_2).f0) : Int) < ((x5_2.length : Int) : Int) := of_decide_eq_true (by first | (with_reducible assumption) | assumption); obtain ⟨go20, co20, eo20, gb20, gl20, cl20, HG20⟩ := Kd.R_form HO_5.out (by omega); (first | cases eo20 | (injection eo20 with ea_ en_ ec_; (first | subst ea_ | (injection ea_ with ea_; subst ea_)); subst ec_; clear en_)); have GB20 := Aside0.mk gb20; have GG20 := Aside0.mk HG20; clear gb20 gl20 HG20; (first | simp only [add_plain] at hx223_0 | skip); obtain ⟨hx20_0, hf20_0⟩ := Kd.R_celln false HO_5.out (((rd_T51 l0_3 x7_2).f0) : Int) p20 q20; replace p20 := eq_true p20; replace q20 := eq_true q20; obtain ⟨hy23_, hz23_⟩ := Kd.R_celln false HO_5.out (((rd_T51 l0_3 x7_2).f0) : Int) (of_decide_eq_true (by first | (with_reducible assumption) | assumption)) (of_decide_eq_true (by first | (with_reducible assumption) | assumption)); have HP23 := Kd.R_putg HO_5.out (((rd_T51 l0_3 x7_2).f0) : Int) true) | ((with_reducible refine gate_store (t := 4) (p := 48) rfl ?_); refine store_event (t := 4) (p := 48) (v := ?vo_w24) (w1 := (wr.setCell ⟨go20, (((rd_T51 l0_3 x7_2).f0) : Int).toNat, none⟩ (.bool true))) ?hg ?ho ?hn ?hr ?_; (case ho => rfl); (case hg => rfl); (case hn => rfl); (case hr => first | (go_simp; done) | (go_simp; rfl)); intro w24 hw; have hg : wr.grownBy w24 (some go20) := (by rw [hw]; exact HP23.2); have hp_ : Kd.R Kd.bool 4 w24 w.heap.size (fun _ => True) (.slice (some ⟨go20, 0, none⟩) x5_2.length co22) y227 := (by rw [hw, Ny227.out]; exact HP23.1); clear HP23; have n0_ := Aside0.mk (hp_); have n1_ := Aside0.mk (blk_grown (g := gb218) (o := .cells #[.int .i64 a0_0, .int .i64 a0_1, .slice A0_2 l0_2.length c0_2, .slice (some ad222) l0_3.length c0_3] 25 (0, 0)) (by (with_reducible repeat (first | refine blk_drewN ?_ _ | refine blk_drew ?_ | refine blk_alloc ?_ _)); exact BK218.out) hg (Kd.R_ne HO_5.out BK218.out (by decide))); have n2_ := Aside0.mk ((by rw [hw]; exact below_set (HB.out) GB20.out : Below w.heap.size w w24)); clear HO_5; clear BK218; clear HB; have HO_5 := n0_; have BK218 := n1_; have HB := n2_; clear n0_ n1_ n2_; clear hg hw hp_))
                            go_roundg k2
                            case measure => have := HK1.out; have := HK2.out; omega
                            case rel => (try rw [← Nbq14.out]); exact ⟨(y227), (true), (wrap64 (x7_2 + 1)), (by first | rfl | (simp; done) | (simp [*]; done)), (by first | rfl | (simp; done) | (simp [*]; done)), H', ⟨by have := HK1.out; have := HK2.out; omega⟩, ⟨by (with_reducible repeat (first | apply Kd.R_alloc | apply Kd.R_drewN | apply Kd.R_drew)); exact HO_5.out⟩, ⟨by (with_reducible repeat (first | refine blk_drewN ?_ _ | refine blk_drew ?_ | refine blk_alloc ?_ _)); exact BK218.out⟩, ⟨by repeat (first | (with_reducible first | exact HB.out | apply below_alloc | apply pw_below_drewN | apply below_drew1 | refine below_set ?_ GE218.out) | exact HB.out)⟩⟩
                          · replace c19 := Bool.eq_false_iff.mpr c19
                            subst c19
                            have H1 : (gramaryeref10_mark.l1 k2 a1 x5_2 x6_2 (wrap64 (x7_2 + 1)) a0_0 a0_1 l0_2 l0_3) = some r := by rw [if_neg (show ¬ (false = true) by decide)] at H; exact H
                            clear H
                            have H := H1
                            clear H1
                            have H' := Aside0.mk H
                            clear H
                            have hcz25_0 : wr.cell? ⟨gb218, 0, none⟩ = some (.int .i64 a0_0) := (blk_cell BK218.out 0).trans rfl
                            have hcz25_1 : wr.cell? ⟨gb218, 1, none⟩ = some (.int .i64 a0_1) := (blk_cell BK218.out 1).trans rfl
                            have hcz25_2 : wr.cell? ⟨gb218, 2, none⟩ = some (.slice A0_2 l0_2.length c0_2) := (blk_cell BK218.out 2).trans rfl
                            have hcz25_3 : wr.cell? ⟨gb218, 3, none⟩ = some (.slice A0_3 l0_3.length c0_3) := (blk_cell BK218.out 3).trans rfl
                            have hfz25_0 := blk_frozen BK218.out 0
                            have hfz25_1 := blk_frozen BK218.out 1
                            have hfz25_2 := blk_frozen BK218.out 2
                            have hfz25_3 := blk_frozen BK218.out 3
                            have p222 : 0 ≤ (x7_2 : Int) := of_decide_eq_true (by first | (with_reducible assumption) | assumption)
                            have q222 : x7_2 < (l0_3.length : Int) := of_decide_eq_true (by first | (with_reducible assumption) | assumption)
                            obtain ⟨ad222, A222_1, c222_1, e222, hx222_0, hx222_1, hl222_1, hi222_1⟩ := at_T51 HR0_3.out x7_2 p222 q222
                            cases e222
                            have Nhx222_0 := Aside0.mk hx222_0; replace hx222_0 := (HB.out.cell (World.block_lt_of_cell? w _ hx222_0)).trans hx222_0
                            have Nhx222_1 := Aside0.mk hx222_1; replace hx222_1 := (HB.out.cell (World.block_lt_of_cell? w _ hx222_1)).trans hx222_1
                            have HR222_1 := Aside0.mk hi222_1
                            have HC222_1 := Aside0.mk hl222_1
                            clear hi222_1 hl222_1
                            replace p222 := eq_true p222
                            replace q222 := eq_true q222
                            obtain ⟨Ao26, co26, eo26⟩ := Kd.R_slice HO_5.out
                            subst eo26
                            have p223 : 0 ≤ (((rd_T51 l0_3 x7_2).f0) : Int) := of_decide_eq_true (by first | (with_reducible assumption) | assumption)
                            have q223 : ((rd_T51 l0_3 x7_2).f0) < (x5_2.length : Int) := of_decide_eq_true (by first | (with_reducible assumption) | assumption)
                            obtain ⟨ad223, e223, hx223_0⟩ := Kd.at_bool (Kd.R_reads' HO_5.out).2.2 ((rd_T51 l0_3 x7_2).f0) p223 q223
                            (try rw [← Nbq14.out] at hx223_0)
                            cases e223
                            replace p223 := eq_true p223
                            replace q223 := eq_true q223
                            have p224 : 0 ≤ (x7_2 : Int) := of_decide_eq_true (by first | (with_reducible assumption) | assumption)
                            have q224 : x7_2 < (l0_3.length : Int) := of_decide_eq_true (by first | (with_reducible assumption) | assumption)
                            obtain ⟨ad224, A224_1, c224_1, e224, hx224_0, hx224_1, hl224_1, hi224_1⟩ := at_T51 HR0_3.out x7_2 p224 q224
                            obtain rfl : ad222 = ad224 := (by injection e224)
                            have Nhx224_0 := Aside0.mk hx224_0; replace hx224_0 := (HB.out.cell (World.block_lt_of_cell? w _ hx224_0)).trans hx224_0
                            have Nhx224_1 := Aside0.mk hx224_1; replace hx224_1 := (HB.out.cell (World.block_lt_of_cell? w _ hx224_1)).trans hx224_1
                            have HR224_1 := Aside0.mk hi224_1
                            have HC224_1 := Aside0.mk hl224_1
                            clear hi224_1 hl224_1
                            replace p224 := eq_true p224
                            replace q224 := eq_true q224
                            (first | (have ea_ := Option.some.inj (hx222_1.symm.trans hx224_1)) | (have ea_ := Option.some.inj (Nhx222_1.out.symm.trans Nhx224_1.out)))
                            injection ea_ with ea_ en_ ec_
                            subst ea_
                            subst ec_
                            clear en_
                            go_wp2_with (first | (go_at_call 47; (with_reducible refine (gramaryeref10_row.calls k2 _ _ ((rd_T51 l0_3 x7_2).f1) a1 _ _ x5_2 false _ ?side1 ?side2 ?side3 ?side4 A18.out).mono ?_); (case side1 => repeat (first | exact (Kd.C_below HR224_1.out HB.out) | (with_reducible refine Kd.C_alloc ?_ _) | (with_reducible refine Kd.C_drewN ?_ _) | (with_reducible refine Kd.C_drew ?_))); (case side2 => exact HC224_1.out); (case side3 => repeat (first | exact (Kd.R_reads' HO_5.out).2.2 | (with_reducible refine Kd.C_alloc ?_ _) | (with_reducible refine Kd.C_drewN ?_ _) | (with_reducible refine Kd.C_drew ?_))); (case side4 => exact (Kd.R_reads' HO_5.out).2.1); rintro e w' ⟨rfl, ⟨nd, rfl⟩⟩))
                            go_roundg k2
                            case measure => have := HK1.out; have := HK2.out; omega
                            case rel => (try rw [← Nbq14.out]); exact ⟨(x5_2), (x6_2), (wrap64 (x7_2 + 1)), (by first | rfl | (simp; done) | (simp [*]; done)), (by first | rfl | (simp; done) | (simp [*]; done)), H', ⟨by have := HK1.out; have := HK2.out; omega⟩, ⟨by (with_reducible repeat (first | apply Kd.R_alloc | apply Kd.R_drewN | apply Kd.R_drew)); exact HO_5.out⟩, ⟨by (with_reducible repeat (first | refine blk_drewN ?_ _ | refine blk_drew ?_ | refine blk_alloc ?_ _)); exact BK218.out⟩, ⟨by repeat (first | (with_reducible first | exact HB.out | apply below_alloc | apply pw_below_drewN | apply below_drew1 | refine below_set ?_ GE218.out) | exact HB.out)⟩⟩
                      · rw [if_neg c13] at H
                        exact absurd H (by simp)
                    · rw [if_neg c12] at H
                      exact absurd H (by simp)
                  · rw [if_neg c11] at H
                    exact absurd H (by simp)
                · rw [if_neg c10] at H
                  have c10b0 : decide (x7_2 < (l0_3.length : Int)) = false := decide_eq_false c10
                  clear c10
                  have H' := Aside0.mk H
                  clear H
                  have hcz27_0 : wr.cell? ⟨gb218, 0, none⟩ = some (.int .i64 a0_0) := (blk_cell BK218.out 0).trans rfl
                  have hcz27_1 : wr.cell? ⟨gb218, 1, none⟩ = some (.int .i64 a0_1) := (blk_cell BK218.out 1).trans rfl
                  have hcz27_2 : wr.cell? ⟨gb218, 2, none⟩ = some (.slice A0_2 l0_2.length c0_2) := (blk_cell BK218.out 2).trans rfl
                  have hcz27_3 : wr.cell? ⟨gb218, 3, none⟩ = some (.slice A0_3 l0_3.length c0_3) := (blk_cell BK218.out 3).trans rfl
                  have hfz27_0 := blk_frozen BK218.out 0
                  have hfz27_1 := blk_frozen BK218.out 1
                  have hfz27_2 := blk_frozen BK218.out 2
                  have hfz27_3 := blk_frozen BK218.out 3
                  go_wp2
                  go_roundg k2
                  case measure => have := HK1.out; have := HK2.out; omega
                  case rel => exact ⟨(x5_2), (x6_2), (by first | rfl | (simp; done) | (simp [*]; done)), H', ⟨by have := HK1.out; have := HK2.out; omega⟩, ⟨by (with_reducible repeat (first | apply Kd.R_alloc | apply Kd.R_drewN | apply Kd.R_drew)); exact HO_5.out⟩, ⟨by (with_reducible repeat (first | refine blk_drewN ?_ _ | refine blk_drew ?_ | refine blk_alloc ?_ _)); exact BK218.out⟩, ⟨by repeat (first | (with_reducible first | exact HB.out | apply below_alloc | apply pw_below_drewN | apply below_drew1 | refine below_set ?_ GE218.out) | exact HB.out)⟩⟩
          · replace c9 := Bool.eq_false_iff.mpr c9
            subst c9
            have H1 : (some x5_1) = some r := by rw [if_neg (show ¬ (false = true) by decide)] at H; exact H
            clear H
            have H := H1
            clear H1
            obtain rfl := Option.some.inj H
            go_wp2
            go_ret
            exact ⟨_, by first | rfl | (simp [errW_none, errW_some] <;> rfl) | (simp [*, errW_none, errW_some] <;> rfl), by (with_reducible repeat (first | apply Kd.R_alloc | apply Kd.R_drewN | apply Kd.R_drew)); exact HO_5.out, by repeat (first | (with_reducible first | exact HB.out | apply below_alloc | apply pw_below_drewN | apply below_drew1 | refine below_set ?_ GE218.out) | exact HB.out)⟩
    · rw [if_neg c4] at H
      exact absurd H (by simp)
  · rw [if_neg c3] at H
    exact absurd H (by simp)
def gramaryeref10_Nothing.f (k : Nat) (a0_0 : Int) (a0_1 : Int) (l0_2 : List Int) (l0_3 : List (S51)) : Option (List Bool) := (gramaryeref10_mark.f k a0_0 a0_1 l0_2 l0_3 false).bind fun t229 => (some t229)
set_option maxHeartbeats 8000000 in
set_option maxRecDepth 100000 in
theorem gramaryeref10_Nothing.calls (k : Nat) (a0_0 : Int) (a0_1 : Int) (A0_2 : Option Addr) (c0_2 : Nat) (l0_2 : List Int) (A0_3 : Option Addr) (c0_3 : Nat) (l0_3 : List (S51)) (r : List Bool) (w : World) (hr0_2 : Kd.C (Kd.int .i64) w A0_2 l0_2.length l0_2) (hc0_2 : l0_2.length ≤ c0_2) (hr0_3 : Kd.C k51 w A0_3 l0_3.length l0_3) (hc0_3 : l0_3.length ≤ c0_3) (h : gramaryeref10_Nothing.f k a0_0 a0_1 l0_2 l0_3 = some r) :
    Calls Try.prog 21 #[.agg #[.int .i64 a0_0, .int .i64 a0_1, .slice A0_2 l0_2.length c0_2, .slice A0_3 l0_3.length c0_3]] w fun e w' => ∃ v0_ : Value, e = .returned (v0_) ∧ Kd.R Kd.bool 4 w' w.heap.size (fun _ => True) v0_ r ∧ Below w.heap.size w w' := by
  have hu25 := Try.underlying25
  have HR0_2 := Aside0.mk hr0_2
  have HC0_2 := Aside0.mk hc0_2
  clear hr0_2 hc0_2
  have HR0_3 := Aside0.mk hr0_3
  have HC0_3 := Aside0.mk hc0_3
  clear hr0_3 hc0_3
  have HB := Aside0.mk (Below.refl w.heap.size w)
  have H : ((gramaryeref10_mark.f k a0_0 a0_1 l0_2 l0_3 false).bind fun t229 => (some t229)) = some r := h
  clear h
  replace H := Option.bind_eq_some_iff.mp H
  obtain ⟨t229, A20, H⟩ := H
  replace H : (some t229) = some r := H
  have A2 := Aside0.mk A20
  clear A20
  obtain rfl := Option.some.inj H
  go_enter Try.func21, Try.ntmps21
  go_wp2_with (first | ((with_reducible refine gate_dst (N := 1) rfl ?_); refine box_event ?hg (N := 1) ?hd (cs := #[.int .i64 a0_0, .int .i64 a0_1, .slice A0_2 l0_2.length c0_2, .slice A0_3 l0_3.length c0_3]) (t := 25) ?hr ?_; (case hd => rfl); (case hg => rfl); (case hr => first | (go_simp; done) | (go_simp; rfl)); intro gb228 hg w3 hbox hb; have n0_ := Aside0.mk (below_step (by repeat (first | (with_reducible first | exact HB.out | apply below_alloc | apply pw_below_drewN | apply below_drew1) | exact HB.out)) hb); have n1_ := Aside0.mk (hbox); have n2_ := Aside0.mk ((by rw [hg]; exact (below_size (by repeat (first | (with_reducible first | exact HB.out | apply below_alloc | apply pw_below_drewN | apply below_drew1) | exact HB.out))) : w.heap.size ≤ gb228)); have n3_ := Aside0.mk ((by rw [hg]; exact (below_size (by repeat (first | (with_reducible first | exact HB.out | apply below_alloc | apply pw_below_drewN | apply below_drew1) | exact HB.out))) : w.heap.size ≤ gb228)); clear HB; have HB := n0_; have BK228 := n1_; have GW228 := n2_; have GE228 := n3_; clear n0_ n1_ n2_ n3_; clear hb hbox hg; have hcz4_0 : w3.cell? ⟨gb228, 0, none⟩ = some (.int .i64 a0_0) := (blk_cell BK228.out 0).trans rfl; have hcz4_1 : w3.cell? ⟨gb228, 1, none⟩ = some (.int .i64 a0_1) := (blk_cell BK228.out 1).trans rfl; have hcz4_2 : w3.cell? ⟨gb228, 2, none⟩ = some (.slice A0_2 l0_2.length c0_2) := (blk_cell BK228.out 2).trans rfl; have hcz4_3 : w3.cell? ⟨gb228, 3, none⟩ = some (.slice A0_3 l0_3.length c0_3) := (blk_cell BK228.out 3).trans rfl; have hfz4_0 := blk_frozen BK228.out 0; have hfz4_1 := blk_frozen BK228.out 1; have hfz4_2 := blk_frozen BK228.out 2; have hfz4_3 := blk_frozen BK228.out 3) | ((with_reducible refine gate_callee (f := 48) rfl ?_); refine goesL_ (some 4) rfl rfl Try.func48 (by kernel_rfl) rfl #[.agg #[.int .i64 a0_0, .int .i64 a0_1, .slice A0_2 l0_2.length c0_2, .slice A0_3 l0_3.length c0_3], .bool false] rfl (by (try simp only [List.map_toArray, List.map_cons, List.map_nil]); first | done | rfl | (simp only [List.length_drop, List.length_take]; rfl)) ?_; (with_reducible refine (gramaryeref10_mark.calls k a0_0 a0_1 _ _ l0_2 _ _ l0_3 false t229 _ ?side1 ?side2 ?side3 ?side4 A2.out).mono ?_); (case side1 => repeat (first | exact (Kd.C_below HR0_2.out HB.out) | (with_reducible refine Kd.C_alloc ?_ _) | (with_reducible refine Kd.C_drewN ?_ _) | (with_reducible refine Kd.C_drew ?_))); (case side2 => exact HC0_2.out); (case side3 => repeat (first | exact (Kd.C_below HR0_3.out HB.out) | (with_reducible refine Kd.C_alloc ?_ _) | (with_reducible refine Kd.C_drewN ?_ _) | (with_reducible refine Kd.C_drew ?_))); (case side4 => exact HC0_3.out); rintro e w5 ⟨v230, rfl, ho0, hb⟩; refine ⟨_, rfl, ?_⟩; have n0_ := Aside0.mk (Kd.R_lower ho0 (below_size (by repeat (first | (with_reducible first | exact HB.out | apply below_alloc | apply pw_below_drewN | apply below_drew1 | refine below_set ?_ GE228.out) | exact HB.out)))); have n1_ := Aside0.mk (blk_below (g := gb228) (o := .cells #[.int .i64 a0_0, .int .i64 a0_1, .slice A0_2 l0_2.length c0_2, .slice A0_3 l0_3.length c0_3] 25 (0, 0)) (by (with_reducible repeat (first | refine blk_drewN ?_ _ | refine blk_drew ?_ | refine blk_alloc ?_ _)); exact BK228.out) hb); have n2_ := Aside0.mk (below_step (by repeat (first | (with_reducible first | exact HB.out | apply below_alloc | apply pw_below_drewN | apply below_drew1 | refine below_set ?_ GE228.out) | exact HB.out)) hb); clear BK228; clear HB; have HO231 := n0_; have BK228 := n1_; have HB := n2_; clear n0_ n1_ n2_; (try clear hb); (try clear hb2); (try clear hk); (try clear hi); (try clear ho0)))
  go_ret
  exact ⟨_, by first | rfl | (simp [errW_none, errW_some] <;> rfl) | (simp [*, errW_none, errW_some] <;> rfl), by (with_reducible repeat (first | apply Kd.R_alloc | apply Kd.R_drewN | apply Kd.R_drew)); exact HO231.out, by repeat (first | (with_reducible first | exact HB.out | apply below_alloc | apply pw_below_drewN | apply below_drew1 | refine below_set ?_ GE228.out) | exact HB.out)⟩
end Go.Proofs.Ytmpdilifoblnaaa.MReachTells
end
section
namespace Go.Proofs.Ytmpdilifoblnaaa.MReachTells
open Go.RowKit Go.Proofs.YtmpdilifoblnaaaW.PrintWords Go.Proofs.YtmpdilifoblnaaaW.PrintLast Go.Proofs.YtmpdilifoblnaaaW.PrintMore Go.Proofs.Ytmpdilifoblnaaa.Fun Go.Proofs.Ytmpdilifoblnaaa.Mem
attribute [local go_sem] max2_int min2_int max_two min_two max_three min_three max_four min_four
set_option linter.unusedVariables false
set_option linter.unusedSimpArgs false
mutual
def gramaryeref11_Next.l0 : Nat → Int → Bool → List Bool → List Int → Int → Int → Int → List Int → List (S51) → Option (List Int)
  | 0, _, _, _, _, _, _, _, _, _ => none
  | k + 1, x1, x2, x7, x8, x9, x233000, x233001, x233002, x233003 => if x9 < (x233002.length : Int) then (gramaryeref11_Next.l1 k x1 x2 x7 x8 x9 false 0 x233000 x233001 x233002 x233003) else (some x8)
def gramaryeref11_Next.l1 : Nat → Int → Bool → List Bool → List Int → Int → Bool → Int → Int → Int → List Int → List (S51) → Option (List Int)
  | 0, _, _, _, _, _, _, _, _, _, _, _ => none
  | k + 1, x1, x2, x7, x8, x9, x10, x11, x233000, x233001, x233002, x233003 => if x11 < (x233003.length : Int) then (if 0 ≤ x11 then (if ((rd_T51 x233003 x11).f0) = x1 then (gramaryeref11_Next.l2 k x1 x2 x7 x8 x9 x10 x11 0 x233000 x233001 x233002 x233003) else (gramaryeref11_Next.l1 k x1 x2 x7 x8 x9 x10 (wrap64 (x11 + 1)) x233000 x233001 x233002 x233003)) else (none)) else (if x10 = true then (if x8.length < 17592186044416 then (gramaryeref11_Next.l0 k x1 x2 x7 (x8 ++ [x9]) (wrap64 (x9 + 1)) x233000 x233001 x233002 x233003) else (none)) else (gramaryeref11_Next.l0 k x1 x2 x7 x8 (wrap64 (x9 + 1)) x233000 x233001 x233002 x233003))
def gramaryeref11_Next.l2 : Nat → Int → Bool → List Bool → List Int → Int → Bool → Int → Int → Int → Int → List Int → List (S51) → Option (List Int)
  | 0, _, _, _, _, _, _, _, _, _, _, _, _ => none
  | k + 1, x1, x2, x7, x8, x9, x10, x11, x12, x233000, x233001, x233002, x233003 => if 0 ≤ x11 then (if x11 < (x233003.length : Int) then (if x12 < (((rd_T51 x233003 x11).f1).length : Int) then (if 0 ≤ x12 then (if ((rd_T59 ((rd_T51 x233003 x11).f1) x12).f0 = true) then (gramaryeref11_Next.j3 k x1 x2 x7 x8 x9 x10 x11 x12 false x233000 x233001 x233002 x233003 ((rd_T59 ((rd_T51 x233003 x11).f1) x12).f0) ((rd_T59 ((rd_T51 x233003 x11).f1) x12).f1)) else (gramaryeref11_Next.j3 k x1 x2 x7 x8 x9 x10 x11 x12 (((rd_T59 ((rd_T51 x233003 x11).f1) x12).f1) == x9) x233000 x233001 x233002 x233003 ((rd_T59 ((rd_T51 x233003 x11).f1) x12).f0) ((rd_T59 ((rd_T51 x233003 x11).f1) x12).f1))) else (none)) else (gramaryeref11_Next.l1 k x1 x2 x7 x8 x9 x10 (wrap64 (x11 + 1)) x233000 x233001 x233002 x233003)) else (none)) else (none)
def gramaryeref11_Next.j3 : Nat → Int → Bool → List Bool → List Int → Int → Bool → Int → Int → Bool → Int → Int → List Int → List (S51) → Bool → Int → Option (List Int)
  | 0, _, _, _, _, _, _, _, _, _, _, _, _, _, _, _ => none
  | k + 1, x1, x2, x7, x8, x9, x10, x11, x12, x67, x233000, x233001, x233002, x233003, x247000, x247001 => if x67 = true then (if x2 = true then (gramaryeref11_Next.l2 k x1 x2 x7 x8 x9 true x11 (wrap64 (x12 + 1)) x233000 x233001 x233002 x233003) else (if x247000 = true then (gramaryeref11_Next.l1 k x1 x2 x7 x8 x9 true (wrap64 (x11 + 1)) x233000 x233001 x233002 x233003) else (if 0 ≤ x247001 then (if x247001 < (x7.length : Int) then (if rdOf false x7 x247001 = true then (gramaryeref11_Next.l2 k x1 x2 x7 x8 x9 true x11 (wrap64 (x12 + 1)) x233000 x233001 x233002 x233003) else (gramaryeref11_Next.l1 k x1 x2 x7 x8 x9 true (wrap64 (x11 + 1)) x233000 x233001 x233002 x233003)) else (none)) else (none)))) else (if x2 = true then (gramaryeref11_Next.l2 k x1 x2 x7 x8 x9 x10 x11 (wrap64 (x12 + 1)) x233000 x233001 x233002 x233003) else (if x247000 = true then (gramaryeref11_Next.l1 k x1 x2 x7 x8 x9 x10 (wrap64 (x11 + 1)) x233000 x233001 x233002 x233003) else (if 0 ≤ x247001 then (if x247001 < (x7.length : Int) then (if rdOf false x7 x247001 = true then (gramaryeref11_Next.l2 k x1 x2 x7 x8 x9 x10 x11 (wrap64 (x12 + 1)) x233000 x233001 x233002 x233003) else (gramaryeref11_Next.l1 k x1 x2 x7 x8 x9 x10 (wrap64 (x11 + 1)) x233000 x233001 x233002 x233003)) else (none)) else (none))))
end
def gramaryeref11_Next.f (k : Nat) (a0_0 : Int) (a0_1 : Int) (l0_2 : List Int) (l0_3 : List (S51)) (a1 : Int) (a2 : Bool) : Option (List Int) := (gramaryeref10_Nothing.f k a0_0 a0_1 l0_2 l0_3).bind fun t233 => (gramaryeref11_Next.l0 k a1 a2 t233 (([] : List Int)) 0 a0_0 a0_1 l0_2 l0_3)
set_option maxHeartbeats 8000000 in
set_option maxRecDepth 100000 in
theorem gramaryeref11_Next.calls (k : Nat) (a0_0 : Int) (a0_1 : Int) (A0_2 : Option Addr) (c0_2 : Nat) (l0_2 : List Int) (A0_3 : Option Addr) (c0_3 : Nat) (l0_3 : List (S51)) (a1 : Int) (a2 : Bool) (r : List Int) (w : World) (hr0_2 : Kd.C (Kd.int .i64) w A0_2 l0_2.length l0_2) (hc0_2 : l0_2.length ≤ c0_2) (hr0_3 : Kd.C k51 w A0_3 l0_3.length l0_3) (hc0_3 : l0_3.length ≤ c0_3) (h : gramaryeref11_Next.f k a0_0 a0_1 l0_2 l0_3 a1 a2 = some r) :
    Calls Try.prog 56 #[.agg #[.int .i64 a0_0, .int .i64 a0_1, .slice A0_2 l0_2.length c0_2, .slice A0_3 l0_3.length c0_3], .int .i64 a1, .bool a2] w fun e w' => ∃ v0_ : Value, e = .returned (v0_) ∧ Kd.R (Kd.int .i64) 3 w' w.heap.size (fun _ => True) v0_ r ∧ Below w.heap.size w w' := by
  have hu25 := Try.underlying25
  have hu59 := Try.underlying59
  have HR0_2 := Aside0.mk hr0_2
  have HC0_2 := Aside0.mk hc0_2
  clear hr0_2 hc0_2
  have HR0_3 := Aside0.mk hr0_3
  have HC0_3 := Aside0.mk hc0_3
  clear hr0_3 hc0_3
  have HB := Aside0.mk (Below.refl w.heap.size w)
  have H : ((gramaryeref10_Nothing.f k a0_0 a0_1 l0_2 l0_3).bind fun t233 => (gramaryeref11_Next.l0 k a1 a2 t233 (([] : List Int)) 0 a0_0 a0_1 l0_2 l0_3)) = some r := h
  clear h
  replace H := Option.bind_eq_some_iff.mp H
  obtain ⟨t233, A40, H⟩ := H
  replace H : (gramaryeref11_Next.l0 k a1 a2 t233 (([] : List Int)) 0 a0_0 a0_1 l0_2 l0_3) = some r := H
  have A4 := Aside0.mk A40
  clear A40
  obtain ⟨y236, hy236⟩ : ∃ y_ : List Int, y_ = (([] : List Int)) := ⟨_, rfl⟩
  replace H : (gramaryeref11_Next.l0 k a1 a2 t233 y236 0 a0_0 a0_1 l0_2 l0_3) = some r := by first | (rw [hy236]; with_reducible exact H) | (have H2_ := (Option.bind_some _ _).symm.trans H; rw [hy236]; with_reducible exact H2_) | (have H2_ := (Option.bind_some _ _).symm.trans H; with_reducible exact H2_) | with_reducible exact H | (rw [hy236]; exact H) | exact H
  have Ny236 := Aside0.mk hy236
  clear hy236
  have H' := Aside0.mk H
  clear H
  go_enter Try.func56, Try.ntmps56
  go_wp2_with (first | ((with_reducible refine gate_dst (N := 3) rfl ?_); refine box_event ?hg (N := 3) ?hd (cs := #[.int .i64 a0_0, .int .i64 a0_1, .slice A0_2 l0_2.length c0_2, .slice A0_3 l0_3.length c0_3]) (t := 25) ?hr ?_; (case hd => rfl); (case hg => rfl); (case hr => first | (go_simp; done) | (go_simp; rfl)); intro gb232 hg w5 hbox hb; have n0_ := Aside0.mk (below_step (by repeat (first | (with_reducible first | exact HB.out | apply below_alloc | apply pw_below_drewN | apply below_drew1) | exact HB.out)) hb); have n1_ := Aside0.mk (hbox); have n2_ := Aside0.mk ((by rw [hg]; exact (below_size (by repeat (first | (with_reducible first | exact HB.out | apply below_alloc | apply pw_below_drewN | apply below_drew1) | exact HB.out))) : w.heap.size ≤ gb232)); have n3_ := Aside0.mk ((by rw [hg]; exact (below_size (by repeat (first | (with_reducible first | exact HB.out | apply below_alloc | apply pw_below_drewN | apply below_drew1) | exact HB.out))) : w.heap.size ≤ gb232)); clear HB; have HB := n0_; have BK232 := n1_; have GW232 := n2_; have GE232 := n3_; clear n0_ n1_ n2_ n3_; clear hb hbox hg; have hcz6_0 : w5.cell? ⟨gb232, 0, none⟩ = some (.int .i64 a0_0) := (blk_cell BK232.out 0).trans rfl; have hcz6_1 : w5.cell? ⟨gb232, 1, none⟩ = some (.int .i64 a0_1) := (blk_cell BK232.out 1).trans rfl; have hcz6_2 : w5.cell? ⟨gb232, 2, none⟩ = some (.slice A0_2 l0_2.length c0_2) := (blk_cell BK232.out 2).trans rfl; have hcz6_3 : w5.cell? ⟨gb232, 3, none⟩ = some (.slice A0_3 l0_3.length c0_3) := (blk_cell BK232.out 3).trans rfl; have hfz6_0 := blk_frozen BK232.out 0; have hfz6_1 := blk_frozen BK232.out 1; have hfz6_2 := blk_frozen BK232.out 2; have hfz6_3 := blk_frozen BK232.out 3) | ((with_reducible refine gate_callee (f := 21) rfl ?_); refine goesL_ (some 15) rfl rfl Try.func21 (by kernel_rfl) rfl #[.agg #[.int .i64 a0_0, .int .i64 a0_1, .slice A0_2 l0_2.length c0_2, .slice A0_3 l0_3.length c0_3]] rfl (by (try simp only [List.map_toArray, List.map_cons, List.map_nil]); first | done | rfl | (simp only [List.length_drop, List.length_take]; rfl)) ?_; (with_reducible refine (gramaryeref10_Nothing.calls k a0_0 a0_1 _ _ l0_2 _ _ l0_3 t233 _ ?side1 ?side2 ?side3 ?side4 A4.out).mono ?_); (case side1 => repeat (first | exact (Kd.C_below HR0_2.out HB.out) | (with_reducible refine Kd.C_alloc ?_ _) | (with_reducible refine Kd.C_drewN ?_ _) | (with_reducible refine Kd.C_drew ?_))); (case side2 => exact HC0_2.out); (case side3 => repeat (first | exact (Kd.C_below HR0_3.out HB.out) | (with_reducible refine Kd.C_alloc ?_ _) | (with_reducible refine Kd.C_drewN ?_ _) | (with_reducible refine Kd.C_drew ?_))); (case side4 => exact HC0_3.out); rintro e w7 ⟨v234, rfl, ho0, hb⟩; refine ⟨_, rfl, ?_⟩; have n0_ := Aside0.mk (Kd.R_lower ho0 (below_size (by repeat (first | (with_reducible first | exact HB.out | apply below_alloc | apply pw_below_drewN | apply below_drew1 | refine below_set ?_ GE232.out) | exact HB.out)))); have n1_ := Aside0.mk (blk_below (g := gb232) (o := .cells #[.int .i64 a0_0, .int .i64 a0_1, .slice A0_2 l0_2.length c0_2, .slice A0_3 l0_3.length c0_3] 25 (0, 0)) (by (with_reducible repeat (first | refine blk_drewN ?_ _ | refine blk_drew ?_ | refine blk_alloc ?_ _)); exact BK232.out) hb); have n2_ := Aside0.mk (below_step (by repeat (first | (with_reducible first | exact HB.out | apply below_alloc | apply pw_below_drewN | apply below_drew1 | refine below_set ?_ GE232.out) | exact HB.out)) hb); clear BK232; clear HB; have HO235 := n0_; have BK232 := n1_; have HB := n2_; clear n0_ n1_ n2_; (try clear hb); (try clear hb2); (try clear hk); (try clear hi); (try clear ho0)) | ((with_reducible refine gate_dst (N := 16) rfl ?_); refine Kd.R_lit (Kd.int .i64) _ 3 ?hg (N := 16) ?hd (xs := ([] : List Int)) (inner := []) (ok := fun _ => True) (okp := fun _ => True) ?hr ?hp (fun _ hk => hk) trivial (Below.refl _ _) (Nat.le_refl _) (by simp) ?_; (case hd => rfl); (case hg => rfl); (case hr => first | (go_simp; done) | (go_simp; rfl)); (case hp => exact (Reps.none _ _)); intro v237 w8 ho9 hb hg_ hnew_; clear hg_ hnew_; (first | rw [← Ny236.out] at ho9 | (simp only [Int.reduceToNat] at ho9; rw [← Ny236.out] at ho9)); have n0_ := Aside0.mk (Kd.R_below (by (with_reducible repeat (first | apply Kd.R_alloc | apply Kd.R_drewN | apply Kd.R_drew)); exact HO235.out) hb); have n1_ := Aside0.mk (Kd.R_lower ho9 (below_size (by repeat (first | (with_reducible first | exact HB.out | apply below_alloc | apply pw_below_drewN | apply below_drew1 | refine below_set ?_ GE232.out) | exact HB.out)))); have n2_ := Aside0.mk (blk_below (g := gb232) (o := .cells #[.int .i64 a0_0, .int .i64 a0_1, .slice A0_2 l0_2.length c0_2, .slice A0_3 l0_3.length c0_3] 25 (0, 0)) (by (with_reducible repeat (first | refine blk_drewN ?_ _ | refine blk_drew ?_ | refine blk_alloc ?_ _)); exact BK232.out) hb); have n3_ := Aside0.mk (below_step (by repeat (first | (with_reducible first | exact HB.out | apply below_alloc | apply pw_below_drewN | apply below_drew1 | refine below_set ?_ GE232.out) | exact HB.out)) hb); clear HO235; clear BK232; clear HB; have HO235 := n0_; have HO238 := n1_; have BK232 := n2_; have HB := n3_; clear n0_ n1_ n2_ n3_; clear hb ho9))
  (try (with_reducible (show Code.wp _ _ _ (Act.put _ _ _) _); go_simp))
  go_loopg [8, 9] k (fun kq v8 v9 w' => ∃ (x8_1 : List Int) (x9_1 : Int), v9 = .int .i64 x9_1 ∧ Aside0 (gramaryeref11_Next.l0 kq a1 a2 t233 x8_1 x9_1 a0_0 a0_1 l0_2 l0_3 = some r) ∧ Aside0 (kq ≤ k) ∧ Aside0 (Kd.R Kd.bool 4 w' w.heap.size (fun _ => True) v234 t233) ∧ Aside0 (Kd.R (Kd.int .i64) 3 w' w.heap.size (fun _ => True) v8 x8_1) ∧ Aside0 (w'.heap[gb232]? = some (.cells #[.int .i64 a0_0, .int .i64 a0_1, (.slice A0_2 l0_2.length c0_2), (.slice A0_3 l0_3.length c0_3)] 25 (0, 0))) ∧ Aside0 (Below w.heap.size w w'))
  case atStart => exact ⟨(y236), (0), (by first | rfl | (simp; done) | (simp [*]; done)), H', ⟨Nat.le_refl _⟩, ⟨by (with_reducible repeat (first | apply Kd.R_alloc | apply Kd.R_drewN | apply Kd.R_drew)); exact HO235.out⟩, ⟨by (with_reducible repeat (first | apply Kd.R_alloc | apply Kd.R_drewN | apply Kd.R_drew)); exact HO238.out⟩, ⟨by (with_reducible repeat (first | refine blk_drewN ?_ _ | refine blk_drew ?_ | refine blk_alloc ?_ _)); exact BK232.out⟩, ⟨by repeat (first | (with_reducible first | exact HB.out | apply below_alloc | apply pw_below_drewN | apply below_drew1 | refine below_set ?_ GE232.out) | exact HB.out)⟩⟩
  case round =>
    clear H'
    try clear c2
    try clear p2
    try clear c5
    try clear hcz6_0
    try clear hcz6_1
    try clear hcz6_2
    try clear hcz6_3
    try clear hfz6_0
    try clear hfz6_1
    try clear hfz6_2
    try clear hfz6_3
    obtain ⟨x8_1, x9_1, rfl, HA, HK1, HO_7, HO_8, BK232, HB⟩ := hrel
    cases gk with
    | zero => exact absurd HA.out (by simp [gramaryeref11_Next.l0])
    | succ k1 =>
      have H := HA.out
      clear HA
      simp only [gramaryeref11_Next.l0] at H
      by_cases c10 : x9_1 < (l0_2.length : Int)
      · rw [if_pos c10] at H
        have c10b0 : decide (x9_1 < (l0_2.length : Int)) = true := decide_eq_true c10
        clear c10
        have H' := Aside0.mk H
        clear H
        have hcz11_0 : wr.cell? ⟨gb232, 0, none⟩ = some (.int .i64 a0_0) := (blk_cell BK232.out 0).trans rfl
        have hcz11_1 : wr.cell? ⟨gb232, 1, none⟩ = some (.int .i64 a0_1) := (blk_cell BK232.out 1).trans rfl
        have hcz11_2 : wr.cell? ⟨gb232, 2, none⟩ = some (.slice A0_2 l0_2.length c0_2) := (blk_cell BK232.out 2).trans rfl
        have hcz11_3 : wr.cell? ⟨gb232, 3, none⟩ = some (.slice A0_3 l0_3.length c0_3) := (blk_cell BK232.out 3).trans rfl
        have hfz11_0 := blk_frozen BK232.out 0
        have hfz11_1 := blk_frozen BK232.out 1
        have hfz11_2 := blk_frozen BK232.out 2
        have hfz11_3 := blk_frozen BK232.out 3
        go_wp2
        (try (with_reducible (show Code.wp _ _ _ (Act.put _ _ _) _); go_simp))
        go_loopg [10, 11] k1 (fun kq v10 v11 w' => ∃ (x10_2 : Bool) (x11_2 : Int), v10 = .bool x10_2 ∧ v11 = .int .i64 x11_2 ∧ Aside0 (gramaryeref11_Next.l1 kq a1 a2 t233 x8_1 x9_1 x10_2 x11_2 a0_0 a0_1 l0_2 l0_3 = some r) ∧ Aside0 (kq ≤ k1) ∧ Aside0 (Kd.R Kd.bool 4 w' w.heap.size (fun _ => True) v234 t233) ∧ Aside0 (Kd.R (Kd.int .i64) 3 w' w.heap.size (fun _ => True) u8 x8_1) ∧ Aside0 (w'.heap[gb232]? = some (.cells #[.int .i64 a0_0, .int .i64 a0_1, (.slice A0_2 l0_2.length c0_2), (.slice A0_3 l0_3.length c0_3)] 25 (0, 0))) ∧ Aside0 (Below w.heap.size w w'))
        case atStart => exact ⟨(false), (0), (by first | rfl | (simp; done) | (simp [*]; done)), (by first | rfl | (simp; done) | (simp [*]; done)), H', ⟨Nat.le_refl _⟩, ⟨by (with_reducible repeat (first | apply Kd.R_alloc | apply Kd.R_drewN | apply Kd.R_drew)); exact HO_7.out⟩, ⟨by (with_reducible repeat (first | apply Kd.R_alloc | apply Kd.R_drewN | apply Kd.R_drew)); exact HO_8.out⟩, ⟨by (with_reducible repeat (first | refine blk_drewN ?_ _ | refine blk_drew ?_ | refine blk_alloc ?_ _)); exact BK232.out⟩, ⟨by repeat (first | (with_reducible first | exact HB.out | apply below_alloc | apply pw_below_drewN | apply below_drew1 | refine below_set ?_ GE232.out) | exact HB.out)⟩⟩
        case round =>
          clear H'
          try clear c1
          try clear c2
          try clear p2
          try clear c5
          try clear c10
          try clear c10b0
          try clear hcz11_0
          try clear hcz11_1
          try clear hcz11_2
          try clear hcz11_3
          try clear hcz6_0
          try clear hcz6_1
          try clear hcz6_2
          try clear hcz6_3
          try clear hfz11_0
          try clear hfz11_1
          try clear hfz11_2
          try clear hfz11_3
          try clear hfz6_0
          try clear hfz6_1
          try clear hfz6_2
          try clear hfz6_3
          try clear p2
          obtain ⟨x10_2, x11_2, rfl, rfl, HA, HK2, HO_7, HO_8, BK232, HB⟩ := hrel
          cases gk with
          | zero => exact absurd HA.out (by simp [gramaryeref11_Next.l1])
          | succ k2 =>
            have H := HA.out
            clear HA
            simp only [gramaryeref11_Next.l1] at H
            by_cases c12 : x11_2 < (l0_3.length : Int)
            · rw [if_pos c12] at H
              have c12b0 : decide (x11_2 < (l0_3.length : Int)) = true := decide_eq_true c12
              clear c12
              by_cases c13 : 0 ≤ x11_2
              · rw [if_pos c13] at H
                have c13b0 : decide (0 ≤ x11_2) = true := decide_eq_true c13
                clear c13
                by_cases c14 : ((rd_T51 l0_3 x11_2).f0) = a1
                · rw [if_pos c14] at H
                  have c14b0 : (((rd_T51 l0_3 x11_2).f0) == a1) = true := beq_iff_eq.mpr c14
                  have c14b1 : (((rd_T51 l0_3 x11_2).f0) != a1) = false := bne_eq_false_iff_eq.mpr c14
                  clear c14
                  have H' := Aside0.mk H
                  clear H
                  have hcz15_0 : wr.cell? ⟨gb232, 0, none⟩ = some (.int .i64 a0_0) := (blk_cell BK232.out 0).trans rfl
                  have hcz15_1 : wr.cell? ⟨gb232, 1, none⟩ = some (.int .i64 a0_1) := (blk_cell BK232.out 1).trans rfl
                  have hcz15_2 : wr.cell? ⟨gb232, 2, none⟩ = some (.slice A0_2 l0_2.length c0_2) := (blk_cell BK232.out 2).trans rfl
                  have hcz15_3 : wr.cell? ⟨gb232, 3, none⟩ = some (.slice A0_3 l0_3.length c0_3) := (blk_cell BK232.out 3).trans rfl
                  have hfz15_0 := blk_frozen BK232.out 0
                  have hfz15_1 := blk_frozen BK232.out 1
                  have hfz15_2 := blk_frozen BK232.out 2
                  have hfz15_3 := blk_frozen BK232.out 3
                  have p242 : 0 ≤ (x11_2 : Int) := of_decide_eq_true (by first | (with_reducible assumption) | assumption)
                  have q242 : x11_2 < (l0_3.length : Int) := of_decide_eq_true (by first | (with_reducible assumption) | assumption)
                  obtain ⟨ad242, A242_1, c242_1, e242, hx242_0, hx242_1, hl242_1, hi242_1⟩ := at_T51 HR0_3.out x11_2 p242 q242
                  cases e242
                  have Nhx242_0 := Aside0.mk hx242_0; replace hx242_0 := (HB.out.cell (World.block_lt_of_cell? w _ hx242_0)).trans hx242_0
                  have Nhx242_1 := Aside0.mk hx242_1; replace hx242_1 := (HB.out.cell (World.block_lt_of_cell? w _ hx242_1)).trans hx242_1
                  have HR242_1 := Aside0.mk hi242_1
                  have HC242_1 := Aside0.mk hl242_1
                  clear hi242_1 hl242_1
                  replace p242 := eq_true p242
                  replace q242 := eq_true q242
                  go_wp2
                  (try (with_reducible (show Code.wp _ _ _ (Act.put _ _ _) _); go_simp))
                  go_loopg [10, 12] k2 (fun kq v10 v12 w' => ∃ (x10_3 : Bool) (x12_3 : Int), v10 = .bool x10_3 ∧ v12 = .int .i64 x12_3 ∧ Aside0 (gramaryeref11_Next.l2 kq a1 a2 t233 x8_1 x9_1 x10_3 x11_2 x12_3 a0_0 a0_1 l0_2 l0_3 = some r) ∧ Aside0 (kq ≤ k2) ∧ Aside0 (Kd.R Kd.bool 4 w' w.heap.size (fun _ => True) v234 t233) ∧ Aside0 (Kd.R (Kd.int .i64) 3 w' w.heap.size (fun _ => True) u8 x8_1) ∧ Aside0 (w'.heap[gb232]? = some (.cells #[.int .i64 a0_0, .int .i64 a0_1, (.slice A0_2 l0_2.length c0_2), (.slice (some ad242) l0_3.length c0_3)] 25 (0, 0))) ∧ Aside0 (Below w.heap.size w w'))
                  case atStart => exact ⟨(x10_2), (0), (by first | rfl | (simp; done) | (simp [*]; done)), (by first | rfl | (simp; done) | (simp [*]; done)), H', ⟨Nat.le_refl _⟩, ⟨by (with_reducible repeat (first | apply Kd.R_alloc | apply Kd.R_drewN | apply Kd.R_drew)); exact HO_7.out⟩, ⟨by (with_reducible repeat (first | apply Kd.R_alloc | apply Kd.R_drewN | apply Kd.R_drew)); exact HO_8.out⟩, ⟨by (with_reducible repeat (first | refine blk_drewN ?_ _ | refine blk_drew ?_ | refine blk_alloc ?_ _)); exact BK232.out⟩, ⟨by repeat (first | (with_reducible first | exact HB.out | apply below_alloc | apply pw_below_drewN | apply below_drew1 | refine below_set ?_ GE232.out) | exact HB.out)⟩⟩
                  case round =>
                    clear H'
                    try clear c1
                    try clear c2
                    try clear p2
                    try clear q2
                    try clear hx2
                    try clear c5
                    try clear c10
                    try clear c10b0
                    try clear c12
                    try clear c12b0
                    try clear c13
                    try clear c13b0
                    try clear c14
                    try clear c14b0
                    try clear c14b1
                    try clear hcz11_0
                    try clear hcz11_1
                    try clear hcz11_2
                    try clear hcz11_3
                    try clear hcz15_0
                    try clear hcz15_1
                    try clear hcz15_2
                    try clear hcz15_3
                    try clear hcz6_0
                    try clear hcz6_1
                    try clear hcz6_2
                    try clear hcz6_3
                    try clear hfz11_0
                    try clear hfz11_1
                    try clear hfz11_2
                    try clear hfz11_3
                    try clear hfz15_0
                    try clear hfz15_1
                    try clear hfz15_2
                    try clear hfz15_3
                    try clear hfz6_0
                    try clear hfz6_1
                    try clear hfz6_2
                    try clear hfz6_3
                    try clear hx242_0
                    try clear hx242_1
                    try clear p2
                    try clear p242
                    try clear q242
                    obtain ⟨x10_3, x12_3, rfl, rfl, HA, HK3, HO_7, HO_8, BK232, HB⟩ := hrel
                    cases gk with
                    | zero => exact absurd HA.out (by simp [gramaryeref11_Next.l2])
                    | succ k3 =>
                      have H := HA.out
                      clear HA
                      simp only [gramaryeref11_Next.l2] at H
                      by_cases c16 : 0 ≤ x11_2
                      · rw [if_pos c16] at H
                        have c16b0 : decide (0 ≤ x11_2) = true := decide_eq_true c16
                        clear c16
                        by_cases c17 : x11_2 < (l0_3.length : Int)
                        · rw [if_pos c17] at H
                          have c17b0 : decide (x11_2 < (l0_3.length : Int)) = true := decide_eq_true c17
                          clear c17
                          by_cases c18 : x12_3 < (((rd_T51 l0_3 x11_2).f1).length : Int)
                          · rw [if_pos c18] at H
                            have c18b0 : decide (x12_3 < (((rd_T51 l0_3 x11_2).f1).length : Int)) = true := decide_eq_true c18
                            clear c18
                            by_cases c19 : 0 ≤ x12_3
                            · rw [if_pos c19] at H
                              have c19b0 : decide (0 ≤ x12_3) = true := decide_eq_true c19
                              clear c19
                              have HC20 := Aside0.mk H
                              clear H
                              have hcz21_0 : wr.cell? ⟨gb232, 0, none⟩ = some (.int .i64 a0_0) := (blk_cell BK232.out 0).trans rfl
                              have hcz21_1 : wr.cell? ⟨gb232, 1, none⟩ = some (.int .i64 a0_1) := (blk_cell BK232.out 1).trans rfl
                              have hcz21_2 : wr.cell? ⟨gb232, 2, none⟩ = some (.slice A0_2 l0_2.length c0_2) := (blk_cell BK232.out 2).trans rfl
                              have hcz21_3 : wr.cell? ⟨gb232, 3, none⟩ = some (.slice (some ad242) l0_3.length c0_3) := (blk_cell BK232.out 3).trans rfl
                              have hfz21_0 := blk_frozen BK232.out 0
                              have hfz21_1 := blk_frozen BK232.out 1
                              have hfz21_2 := blk_frozen BK232.out 2
                              have hfz21_3 := blk_frozen BK232.out 3
                              have p243 : 0 ≤ (x11_2 : Int) := of_decide_eq_true (by first | (with_reducible assumption) | assumption)
                              have q243 : x11_2 < (l0_3.length : Int) := of_decide_eq_true (by first | (with_reducible assumption) | assumption)
                              obtain ⟨ad243, A243_1, c243_1, e243, hx243_0, hx243_1, hl243_1, hi243_1⟩ := at_T51 HR0_3.out x11_2 p243 q243
                              obtain rfl : ad242 = ad243 := (by injection e243)
                              have Nhx243_0 := Aside0.mk hx243_0; replace hx243_0 := (HB.out.cell (World.block_lt_of_cell? w _ hx243_0)).trans hx243_0
                              have Nhx243_1 := Aside0.mk hx243_1; replace hx243_1 := (HB.out.cell (World.block_lt_of_cell? w _ hx243_1)).trans hx243_1
                              have HR243_1 := Aside0.mk hi243_1
                              have HC243_1 := Aside0.mk hl243_1
                              clear hi243_1 hl243_1
                              replace p243 := eq_true p243
                              replace q243 := eq_true q243
                              have p244 : 0 ≤ (x11_2 : Int) := of_decide_eq_true (by first | (with_reducible assumption) | assumption)
                              have q244 : x11_2 < (l0_3.length : Int) := of_decide_eq_true (by first | (with_reducible assumption) | assumption)
                              obtain ⟨ad244, A244_1, c244_1, e244, hx244_0, hx244_1, hl244_1, hi244_1⟩ := at_T51 HR0_3.out x11_2 p244 q244
                              obtain rfl : ad242 = ad244 := (by injection e244)
                              have Nhx244_0 := Aside0.mk hx244_0; replace hx244_0 := (HB.out.cell (World.block_lt_of_cell? w _ hx244_0)).trans hx244_0
                              have Nhx244_1 := Aside0.mk hx244_1; replace hx244_1 := (HB.out.cell (World.block_lt_of_cell? w _ hx244_1)).trans hx244_1
                              have HR244_1 := Aside0.mk hi244_1
                              have HC244_1 := Aside0.mk hl244_1
                              clear hi244_1 hl244_1
                              replace p244 := eq_true p244
                              replace q244 := eq_true q244
                              (first | (have ea_ := Option.some.inj (hx243_1.symm.trans hx244_1)) | (have ea_ := Option.some.inj (Nhx243_1.out.symm.trans Nhx244_1.out)))
                              injection ea_ with ea_ en_ ec_
                              subst ea_
                              subst ec_
                              clear en_
                              have p245 : 0 ≤ (x12_3 : Int) := of_decide_eq_true (by first | (with_reducible assumption) | assumption)
                              have q245 : x12_3 < (((rd_T51 l0_3 x11_2).f1).length : Int) := of_decide_eq_true (by first | (with_reducible assumption) | assumption)
                              obtain ⟨ad245, e245, hx245_0, hx245_1⟩ := at_T59 HR244_1.out x12_3 p245 q245
                              cases e245
                              have Nhx245_0 := Aside0.mk hx245_0; replace hx245_0 := (HB.out.cell (World.block_lt_of_cell? w _ hx245_0)).trans hx245_0
                              have Nhx245_1 := Aside0.mk hx245_1; replace hx245_1 := (HB.out.cell (World.block_lt_of_cell? w _ hx245_1)).trans hx245_1
                              replace p245 := eq_true p245
                              replace q245 := eq_true q245
                              go_upto_region 14 with (first | ((with_reducible refine gate_dst (N := 13) rfl ?_); refine box_event ?hg (N := 13) ?hd (cs := #[.bool false, .int .i64 0]) (t := 59) ?hr ?_; (case hd => rfl); (case hg => rfl); (case hr => first | (go_simp; done) | (go_simp; rfl)); intro gb246 hg w22 hbox hb; have n0_ := Aside0.mk (Kd.R_below (by (with_reducible repeat (first | apply Kd.R_alloc | apply Kd.R_drewN | apply Kd.R_drew)); exact HO_7.out) hb); have n1_ := Aside0.mk (Kd.R_below (by (with_reducible repeat (first | apply Kd.R_alloc | apply Kd.R_drewN | apply Kd.R_drew)); exact HO_8.out) hb); have n2_ := Aside0.mk (blk_below (g := gb232) (o := .cells #[.int .i64 a0_0, .int .i64 a0_1, .slice A0_2 l0_2.length c0_2, .slice (some ad242) l0_3.length c0_3] 25 (0, 0)) (by (with_reducible repeat (first | refine blk_drewN ?_ _ | refine blk_drew ?_ | refine blk_alloc ?_ _)); exact BK232.out) hb); have n3_ := Aside0.mk (below_step (by repeat (first | (with_reducible first | exact HB.out | apply below_alloc | apply pw_below_drewN | apply below_drew1 | refine below_set ?_ GE232.out) | exact HB.out)) hb); have n4_ := Aside0.mk (hbox); have n5_ := Aside0.mk ((by rw [hg]; exact (below_size (by repeat (first | (with_reducible first | exact HB.out | apply below_alloc | apply pw_below_drewN | apply below_drew1 | refine below_set ?_ GE232.out) | exact HB.out))) : w.heap.size ≤ gb246)); have n6_ := Aside0.mk ((by rw [hg]; exact (below_size (by repeat (first | (with_reducible first | exact HB.out | apply below_alloc | apply pw_below_drewN | apply below_drew1 | refine below_set ?_ GE232.out) | exact HB.out))) : w.heap.size ≤ gb246)); have n7_ := Aside0.mk ((by rw [hg]; exact Nat.ne_of_lt (blk_lt (g := gb232) (o := .cells #[.int .i64 a0_0, .int .i64 a0_1, .slice A0_2 l0_2.length c0_2, .slice (some ad242) l0_3.length c0_3] 25 (0, 0)) (by (with_reducible repeat (first | refine blk_drewN ?_ _ | refine blk_drew ?_ | refine blk_alloc ?_ _)); exact BK232.out)) : gb232 ≠ gb246)); have n8_ := Aside0.mk ((by rw [hg]; exact Nat.ne_of_gt (blk_lt (g := gb232) (o := .cells #[.int .i64 a0_0, .int .i64 a0_1, .slice A0_2 l0_2.length c0_2, .slice (some ad242) l0_3.length c0_3] 25 (0, 0)) (by (with_reducible repeat (first | refine blk_drewN ?_ _ | refine blk_drew ?_ | refine blk_alloc ?_ _)); exact BK232.out)) : gb246 ≠ gb232)); clear HO_7; clear HO_8; clear BK232; clear HB; have HO_7 := n0_; have HO_8 := n1_; have BK232 := n2_; have HB := n3_; have BK246 := n4_; have GW246 := n5_; have GE246 := n6_; have NB232_246 := n7_; have NB246_232 := n8_; clear n0_ n1_ n2_ n3_ n4_ n5_ n6_ n7_ n8_; clear hb hbox hg; have hnb23 := NB246_232.out; have hnc23 := NB232_246.out; have hcz24_0 : w22.cell? ⟨gb246, 0, none⟩ = some (.bool false) := (blk_cell BK246.out 0).trans rfl; have hcz24_1 : w22.cell? ⟨gb246, 1, none⟩ = some (.int .i64 0) := (blk_cell BK246.out 1).trans rfl; have hfz24_0 := blk_frozen BK246.out 0; have hfz24_1 := blk_frozen BK246.out 1))
                              (try simp only [Act.put, List.setIfInBounds_toArray, List.set_cons_zero, List.set_cons_succ])
                              go_cut [67] (fun v67 wc => ∃ (kq : Nat) (x67_19 : Bool), v67 = .bool x67_19 ∧ Aside0 (gramaryeref11_Next.j3 kq a1 a2 t233 x8_1 x9_1 x10_3 x11_2 x12_3 x67_19 a0_0 a0_1 l0_2 l0_3 ((rd_T59 ((rd_T51 l0_3 x11_2).f1) x12_3).f0) ((rd_T59 ((rd_T51 l0_3 x11_2).f1) x12_3).f1) = some r) ∧ Aside0 (kq ≤ k3) ∧ Aside0 (Kd.R Kd.bool 4 wc w.heap.size (fun _ => True) v234 t233) ∧ Aside0 (Kd.R (Kd.int .i64) 3 wc w.heap.size (fun _ => True) u8 x8_1) ∧ Aside0 (wc.heap[gb232]? = some (.cells #[.int .i64 a0_0, .int .i64 a0_1, (.slice A0_2 l0_2.length c0_2), (.slice (some ad242) l0_3.length c0_3)] 25 (0, 0))) ∧ Aside0 (wc.heap[gb246]? = some (.cells #[.bool ((rd_T59 ((rd_T51 l0_3 x11_2).f1) x12_3).f0), .int .i64 ((rd_T59 ((rd_T51 l0_3 x11_2).f1) x12_3).f1)] 59 (0, 0))) ∧ Aside0 (Below w.heap.size w wc))
                              case first =>
                                have H := HC20.out
                                clear HC20
                                obtain ⟨bq25, hbq25⟩ : ∃ b_ : Bool, b_ = ((rd_T59 ((rd_T51 l0_3 x11_2).f1) x12_3).f0) := ⟨_, rfl⟩
                                replace H : (if (bq25 = true) then (gramaryeref11_Next.j3 k3 a1 a2 t233 x8_1 x9_1 x10_3 x11_2 x12_3 false a0_0 a0_1 l0_2 l0_3 bq25 ((rd_T59 ((rd_T51 l0_3 x11_2).f1) x12_3).f1)) else (gramaryeref11_Next.j3 k3 a1 a2 t233 x8_1 x9_1 x10_3 x11_2 x12_3 (((rd_T59 ((rd_T51 l0_3 x11_2).f1) x12_3).f1) == x9_1) a0_0 a0_1 l0_2 l0_3 bq25 ((rd_T59 ((rd_T51 l0_3 x11_2).f1) x12_3).f1))) = some r := by rw [← hbq25] at H; exact H
                                have Nbq25 := Aside0.mk hbq25
                                clear hbq25
                                (try rw [← Nbq25.out])
                                by_cases c26 : (bq25 = true)
                                · subst c26
                                  have H1 : (gramaryeref11_Next.j3 k3 a1 a2 t233 x8_1 x9_1 x10_3 x11_2 x12_3 false a0_0 a0_1 l0_2 l0_3 true ((rd_T59 ((rd_T51 l0_3 x11_2).f1) x12_3).f1)) = some r := by rw [if_pos rfl] at H; exact H
                                  clear H
                                  have H := H1
                                  clear H1
                                  have H' := Aside0.mk H
                                  clear H
                                  have hnb27 := NB246_232.out
                                  have hnc27 := NB232_246.out
                                  have hcz28_0 : w22.cell? ⟨gb246, 0, none⟩ = some (.bool false) := (blk_cell BK246.out 0).trans rfl
                                  have hcz28_1 : w22.cell? ⟨gb246, 1, none⟩ = some (.int .i64 0) := (blk_cell BK246.out 1).trans rfl
                                  have hfz28_0 := blk_frozen BK246.out 0
                                  have hfz28_1 := blk_frozen BK246.out 1
                                  go_wp2
                                  go_meet
                                  case rel => (try rw [← Nbq25.out]); exact ⟨_, (false), (by first | rfl | (simp; done) | (simp [*]; done)), H', ⟨by have := HK1.out; have := HK2.out; have := HK3.out; first | omega | exact Nat.le_refl _⟩, ⟨by (with_reducible repeat (first | apply Kd.R_alloc | apply Kd.R_drewN | apply Kd.R_drew)); exact Kd.R_mono (Kd.R_far (p := ⟨gb246, 1, none⟩) (Kd.R_far (p := ⟨gb246, 0, none⟩) (Kd.R_types HO_7.out BK246.out (by decide)) (fun _ hk => hk.2) (.bool (true))) (fun _ hk => hk.2) (.int .i64 ((rd_T59 ((rd_T51 l0_3 x11_2).f1) x12_3).f1))) (fun _ hk => trivial)⟩, ⟨by (with_reducible repeat (first | apply Kd.R_alloc | apply Kd.R_drewN | apply Kd.R_drew)); exact Kd.R_mono (Kd.R_far (p := ⟨gb246, 1, none⟩) (Kd.R_far (p := ⟨gb246, 0, none⟩) (Kd.R_types HO_8.out BK246.out (by decide)) (fun _ hk => hk.2) (.bool (true))) (fun _ hk => hk.2) (.int .i64 ((rd_T59 ((rd_T51 l0_3 x11_2).f1) x12_3).f1))) (fun _ hk => trivial)⟩, ⟨by (with_reducible repeat (first | refine blk_drewN ?_ _ | refine blk_drew ?_ | refine blk_alloc ?_ _)); refine blk_far ?_ NB232_246.out _; (with_reducible repeat (first | refine blk_drewN ?_ _ | refine blk_drew ?_ | refine blk_alloc ?_ _)); refine blk_far ?_ NB232_246.out _; (with_reducible repeat (first | refine blk_drewN ?_ _ | refine blk_drew ?_ | refine blk_alloc ?_ _)); exact BK232.out⟩, ⟨by (with_reducible repeat (first | refine blk_drewN ?_ _ | refine blk_drew ?_ | refine blk_alloc ?_ _)); refine blk_put (cs := #[.bool (true), .int .i64 0]) ?_ 1 _ rfl; (with_reducible repeat (first | refine blk_drewN ?_ _ | refine blk_drew ?_ | refine blk_alloc ?_ _)); refine blk_put (cs := #[.bool false, .int .i64 0]) ?_ 0 _ rfl; (with_reducible repeat (first | refine blk_drewN ?_ _ | refine blk_drew ?_ | refine blk_alloc ?_ _)); exact BK246.out⟩, ⟨by repeat (first | (with_reducible first | exact HB.out | apply below_alloc | apply pw_below_drewN | apply below_drew1 | refine below_set ?_ GE232.out | refine below_set ?_ GE246.out) | exact HB.out)⟩⟩
                                · replace c26 := Bool.eq_false_iff.mpr c26
                                  subst c26
                                  have H1 : (gramaryeref11_Next.j3 k3 a1 a2 t233 x8_1 x9_1 x10_3 x11_2 x12_3 (((rd_T59 ((rd_T51 l0_3 x11_2).f1) x12_3).f1) == x9_1) a0_0 a0_1 l0_2 l0_3 false ((rd_T59 ((rd_T51 l0_3 x11_2).f1) x12_3).f1)) = some r := by rw [if_neg (show ¬ (false = true) by decide)] at H; exact H
                                  clear H
                                  have H := H1
                                  clear H1
                                  have H' := Aside0.mk H
                                  clear H
                                  have hnb29 := NB246_232.out
                                  have hnc29 := NB232_246.out
                                  have hcz30_0 : w22.cell? ⟨gb246, 0, none⟩ = some (.bool false) := (blk_cell BK246.out 0).trans rfl
                                  have hcz30_1 : w22.cell? ⟨gb246, 1, none⟩ = some (.int .i64 0) := (blk_cell BK246.out 1).trans rfl
                                  have hfz30_0 := blk_frozen BK246.out 0
                                  have hfz30_1 := blk_frozen BK246.out 1
                                  go_wp2
                                  go_meet
                                  case rel => (try rw [← Nbq25.out]); exact ⟨_, ((((rd_T59 ((rd_T51 l0_3 x11_2).f1) x12_3).f1) == x9_1)), (by first | rfl | (simp; done) | (simp [*]; done)), H', ⟨by have := HK1.out; have := HK2.out; have := HK3.out; first | omega | exact Nat.le_refl _⟩, ⟨by (with_reducible repeat (first | apply Kd.R_alloc | apply Kd.R_drewN | apply Kd.R_drew)); exact Kd.R_mono (Kd.R_far (p := ⟨gb246, 1, none⟩) (Kd.R_far (p := ⟨gb246, 0, none⟩) (Kd.R_types HO_7.out BK246.out (by decide)) (fun _ hk => hk.2) (.bool (false))) (fun _ hk => hk.2) (.int .i64 ((rd_T59 ((rd_T51 l0_3 x11_2).f1) x12_3).f1))) (fun _ hk => trivial)⟩, ⟨by (with_reducible repeat (first | apply Kd.R_alloc | apply Kd.R_drewN | apply Kd.R_drew)); exact Kd.R_mono (Kd.R_far (p := ⟨gb246, 1, none⟩) (Kd.R_far (p := ⟨gb246, 0, none⟩) (Kd.R_types HO_8.out BK246.out (by decide)) (fun _ hk => hk.2) (.bool (false))) (fun _ hk => hk.2) (.int .i64 ((rd_T59 ((rd_T51 l0_3 x11_2).f1) x12_3).f1))) (fun _ hk => trivial)⟩, ⟨by (with_reducible repeat (first | refine blk_drewN ?_ _ | refine blk_drew ?_ | refine blk_alloc ?_ _)); refine blk_far ?_ NB232_246.out _; (with_reducible repeat (first | refine blk_drewN ?_ _ | refine blk_drew ?_ | refine blk_alloc ?_ _)); refine blk_far ?_ NB232_246.out _; (with_reducible repeat (first | refine blk_drewN ?_ _ | refine blk_drew ?_ | refine blk_alloc ?_ _)); exact BK232.out⟩, ⟨by (with_reducible repeat (first | refine blk_drewN ?_ _ | refine blk_drew ?_ | refine blk_alloc ?_ _)); refine blk_put (cs := #[.bool (false), .int .i64 0]) ?_ 1 _ rfl; (with_reducible repeat (first | refine blk_drewN ?_ _ | refine blk_drew ?_ | refine blk_alloc ?_ _)); refine blk_put (cs := #[.bool false, .int .i64 0]) ?_ 0 _ rfl; (with_reducible repeat (first | refine blk_drewN ?_ _ | refine blk_drew ?_ | refine blk_alloc ?_ _)); exact BK246.out⟩, ⟨by repeat (first | (with_reducible first | exact HB.out | apply below_alloc | apply pw_below_drewN | apply below_drew1 | refine below_set ?_ GE232.out | refine below_set ?_ GE246.out) | exact HB.out)⟩⟩
                              case rest =>
                                clear HC20
                                try clear c1
                                try clear c2
                                try clear p2
                                try clear q2
                                try clear hx2
                                try clear c5
                                try clear c10
                                try clear c10b0
                                try clear c12
                                try clear c12b0
                                try clear c13
                                try clear c13b0
                                try clear c14
                                try clear c14b0
                                try clear c14b1
                                try clear c16
                                try clear c16b0
                                try clear c17
                                try clear c17b0
                                try clear c18
                                try clear c18b0
                                try clear c19
                                try clear c19b0
                                try clear c21
                                try clear c23
                                try clear c24
                                try clear p24
                                try clear q24
                                try clear hx24
                                try clear q25
                                try clear c26
                                try clear c27
                                try clear c29
                                try clear hcz11_0
                                try clear hcz11_1
                                try clear hcz11_2
                                try clear hcz11_3
                                try clear hcz15_0
                                try clear hcz15_1
                                try clear hcz15_2
                                try clear hcz15_3
                                try clear hcz21_0
                                try clear hcz21_1
                                try clear hcz21_2
                                try clear hcz21_3
                                try clear hcz24_0
                                try clear hcz24_1
                                try clear hcz28_0
                                try clear hcz28_1
                                try clear hcz30_0
                                try clear hcz30_1
                                try clear hcz6_0
                                try clear hcz6_1
                                try clear hcz6_2
                                try clear hcz6_3
                                try clear hfz11_0
                                try clear hfz11_1
                                try clear hfz11_2
                                try clear hfz11_3
                                try clear hfz15_0
                                try clear hfz15_1
                                try clear hfz15_2
                                try clear hfz15_3
                                try clear hfz21_0
                                try clear hfz21_1
                                try clear hfz21_2
                                try clear hfz21_3
                                try clear hfz24_0
                                try clear hfz24_1
                                try clear hfz28_0
                                try clear hfz28_1
                                try clear hfz30_0
                                try clear hfz30_1
                                try clear hfz6_0
                                try clear hfz6_1
                                try clear hfz6_2
                                try clear hfz6_3
                                try clear hx242_0
                                try clear hx242_1
                                try clear hx243_0
                                try clear hx243_1
                                try clear hx244_0
                                try clear hx244_1
                                try clear hx245_0
                                try clear hx245_1
                                try clear p2
                                try clear p242
                                try clear p243
                                try clear p244
                                try clear p245
                                try clear q2
                                try clear q242
                                try clear q243
                                try clear q244
                                try clear q245
                                obtain ⟨kq, x67_19, rfl, HA, HJ19, HO_7, HO_8, BK232, BK246, HB⟩ := hcut
                                cases kq with
                                | zero => exact absurd HA.out (by simp [gramaryeref11_Next.j3])
                                | succ kj19 =>
                                  have H := HA.out
                                  clear HA
                                  simp only [gramaryeref11_Next.j3] at H
                                  by_cases c31 : x67_19 = true
                                  · subst c31
                                    have H1 : (if a2 = true then (gramaryeref11_Next.l2 kj19 a1 a2 t233 x8_1 x9_1 true x11_2 (wrap64 (x12_3 + 1)) a0_0 a0_1 l0_2 l0_3) else (if ((rd_T59 ((rd_T51 l0_3 x11_2).f1) x12_3).f0) = true then (gramaryeref11_Next.l1 kj19 a1 a2 t233 x8_1 x9_1 true (wrap64 (x11_2 + 1)) a0_0 a0_1 l0_2 l0_3) else (if 0 ≤ ((rd_T59 ((rd_T51 l0_3 x11_2).f1) x12_3).f1) then (if ((rd_T59 ((rd_T51 l0_3 x11_2).f1) x12_3).f1) < (t233.length : Int) then (if rdOf false t233 ((rd_T59 ((rd_T51 l0_3 x11_2).f1) x12_3).f1) = true then (gramaryeref11_Next.l2 kj19 a1 a2 t233 x8_1 x9_1 true x11_2 (wrap64 (x12_3 + 1)) a0_0 a0_1 l0_2 l0_3) else (gramaryeref11_Next.l1 kj19 a1 a2 t233 x8_1 x9_1 true (wrap64 (x11_2 + 1)) a0_0 a0_1 l0_2 l0_3)) else (none)) else (none)))) = some r := by rw [if_pos rfl] at H; exact H
                                    clear H
                                    have H := H1
                                    clear H1
                                    by_cases c32 : a2 = true
                                    · subst c32
                                      have H1 : (gramaryeref11_Next.l2 kj19 a1 true t233 x8_1 x9_1 true x11_2 (wrap64 (x12_3 + 1)) a0_0 a0_1 l0_2 l0_3) = some r := by rw [if_pos rfl] at H; exact H
                                      clear H
                                      have H := H1
                                      clear H1
                                      have H' := Aside0.mk H
                                      clear H
                                      go_wp2
                                      go_roundg kj19
                                      case measure => have := HK1.out; have := HK2.out; have := HK3.out; have := HJ19.out; omega
                                      case rel => exact ⟨(true), (wrap64 (x12_3 + 1)), (by first | rfl | (simp; done) | (simp [*]; done)), (by first | rfl | (simp; done) | (simp [*]; done)), H', ⟨by have := HK1.out; have := HK2.out; have := HK3.out; have := HJ19.out; omega⟩, ⟨by (with_reducible repeat (first | apply Kd.R_alloc | apply Kd.R_drewN | apply Kd.R_drew)); exact HO_7.out⟩, ⟨by (with_reducible repeat (first | apply Kd.R_alloc | apply Kd.R_drewN | apply Kd.R_drew)); exact HO_8.out⟩, ⟨by (with_reducible repeat (first | refine blk_drewN ?_ _ | refine blk_drew ?_ | refine blk_alloc ?_ _)); exact BK232.out⟩, ⟨by repeat (first | (with_reducible first | exact HB.out | apply below_alloc | apply pw_below_drewN | apply below_drew1 | refine below_set ?_ GE232.out | refine below_set ?_ GE246.out) | exact HB.out)⟩⟩
                                    · replace c32 := Bool.eq_false_iff.mpr c32
                                      subst c32
                                      have H1 : (if ((rd_T59 ((rd_T51 l0_3 x11_2).f1) x12_3).f0) = true then (gramaryeref11_Next.l1 kj19 a1 false t233 x8_1 x9_1 true (wrap64 (x11_2 + 1)) a0_0 a0_1 l0_2 l0_3) else (if 0 ≤ ((rd_T59 ((rd_T51 l0_3 x11_2).f1) x12_3).f1) then (if ((rd_T59 ((rd_T51 l0_3 x11_2).f1) x12_3).f1) < (t233.length : Int) then (if rdOf false t233 ((rd_T59 ((rd_T51 l0_3 x11_2).f1) x12_3).f1) = true then (gramaryeref11_Next.l2 kj19 a1 false t233 x8_1 x9_1 true x11_2 (wrap64 (x12_3 + 1)) a0_0 a0_1 l0_2 l0_3) else (gramaryeref11_Next.l1 kj19 a1 false t233 x8_1 x9_1 true (wrap64 (x11_2 + 1)) a0_0 a0_1 l0_2 l0_3)) else (none)) else (none))) = some r := by rw [if_neg (show ¬ (false = true) by decide)] at H; exact H
                                      clear H
                                      have H := H1
                                      clear H1
                                      by_cases c33 : ((rd_T59 ((rd_T51 l0_3 x11_2).f1) x12_3).f0) = true
                                      · rw [if_pos c33] at H
                                        have c33b0 : ((rd_T59 ((rd_T51 l0_3 x11_2).f1) x12_3).f0) = true := c33
                                        clear c33
                                        have H' := Aside0.mk H
                                        clear H
                                        have hnb34 := NB246_232.out
                                        have hnc34 := NB232_246.out
                                        have hcz35_0 : wc.cell? ⟨gb246, 0, none⟩ = some (.bool ((rd_T59 ((rd_T51 l0_3 x11_2).f1) x12_3).f0)) := (blk_cell BK246.out 0).trans rfl
                                        have hcz35_1 : wc.cell? ⟨gb246, 1, none⟩ = some (.int .i64 ((rd_T59 ((rd_T51 l0_3 x11_2).f1) x12_3).f1)) := (blk_cell BK246.out 1).trans rfl
                                        have hfz35_0 := blk_frozen BK246.out 0
                                        have hfz35_1 := blk_frozen BK246.out 1
                                        go_wp2
                                        go_roundg kj19
                                        case measure => have := HK1.out; have := HK2.out; have := HK3.out; have := HJ19.out; omega
                                        case rel => exact ⟨(true), (wrap64 (x11_2 + 1)), (by first | rfl | (simp; done) | (simp [*]; done)), (by first | rfl | (simp; done) | (simp [*]; done)), H', ⟨by have := HK1.out; have := HK2.out; have := HK3.out; have := HJ19.out; omega⟩, ⟨by (with_reducible repeat (first | apply Kd.R_alloc | apply Kd.R_drewN | apply Kd.R_drew)); exact HO_7.out⟩, ⟨by (with_reducible repeat (first | apply Kd.R_alloc | apply Kd.R_drewN | apply Kd.R_drew)); exact HO_8.out⟩, ⟨by (with_reducible repeat (first | refine blk_drewN ?_ _ | refine blk_drew ?_ | refine blk_alloc ?_ _)); exact BK232.out⟩, ⟨by repeat (first | (with_reducible first | exact HB.out | apply below_alloc | apply pw_below_drewN | apply below_drew1 | refine below_set ?_ GE232.out | refine below_set ?_ GE246.out) | exact HB.out)⟩⟩
                                      · rw [if_neg c33] at H
                                        have c33b0 : ((rd_T59 ((rd_T51 l0_3 x11_2).f1) x12_3).f0) = false := by simpa using c33
                                        clear c33
                                        by_cases c36 : 0 ≤ ((rd_T59 ((rd_T51 l0_3 x11_2).f1) x12_3).f1)
                                        · rw [if_pos c36] at H
                                          have c36b0 : decide (0 ≤ ((rd_T59 ((rd_T51 l0_3 x11_2).f1) x12_3).f1)) = true := decide_eq_true c36
                                          clear c36
                                          by_cases c37 : ((rd_T59 ((rd_T51 l0_3 x11_2).f1) x12_3).f1) < (t233.length : Int)
                                          · rw [if_pos c37] at H
                                            have c37b0 : decide (((rd_T59 ((rd_T51 l0_3 x11_2).f1) x12_3).f1) < (t233.length : Int)) = true := decide_eq_true c37
                                            clear c37
                                            obtain ⟨bq38, hbq38⟩ : ∃ b_ : Bool, b_ = (rdOf false t233 ((rd_T59 ((rd_T51 l0_3 x11_2).f1) x12_3).f1)) := ⟨_, rfl⟩
                                            replace H : (if bq38 = true then (gramaryeref11_Next.l2 kj19 a1 false t233 x8_1 x9_1 true x11_2 (wrap64 (x12_3 + 1)) a0_0 a0_1 l0_2 l0_3) else (gramaryeref11_Next.l1 kj19 a1 false t233 x8_1 x9_1 true (wrap64 (x11_2 + 1)) a0_0 a0_1 l0_2 l0_3)) = some r := by rw [← hbq38] at H; exact H
                                            have Nbq38 := Aside0.mk hbq38
                                            clear hbq38
                                            by_cases c39 : bq38 = true
                                            · subst c39
                                              have H1 : (gramaryeref11_Next.l2 kj19 a1 false t233 x8_1 x9_1 true x11_2 (wrap64 (x12_3 + 1)) a0_0 a0_1 l0_2 l0_3) = some r := by rw [if_pos rfl] at H; exact H
                                              clear H
                                              have H := H1
                                              clear H1
                                              have H' := Aside0.mk H
                                              clear H
                                              have hnb40 := NB246_232.out
                                              have hnc40 := NB232_246.out
                                              have hcz41_0 : wc.cell? ⟨gb246, 0, none⟩ = some (.bool ((rd_T59 ((rd_T51 l0_3 x11_2).f1) x12_3).f0)) := (blk_cell BK246.out 0).trans rfl
                                              have hcz41_1 : wc.cell? ⟨gb246, 1, none⟩ = some (.int .i64 ((rd_T59 ((rd_T51 l0_3 x11_2).f1) x12_3).f1)) := (blk_cell BK246.out 1).trans rfl
                                              have hfz41_0 := blk_frozen BK246.out 0
                                              have hfz41_1 := blk_frozen BK246.out 1
                                              obtain ⟨Ao42, co42, eo42⟩ := Kd.R_slice HO_7.out
                                              subst eo42
                                              have p247 : 0 ≤ (((rd_T59 ((rd_T51 l0_3 x11_2).f1) x12_3).f1) : Int) := of_decide_eq_true (by first | (with_reducible assumption) | assumption)
                                              have q247 : ((rd_T59 ((rd_T51 l0_3 x11_2).f1) x12_3).f1) < (t233.length : Int) := of_decide_eq_true (by first | (with_reducible assumption) | assumption)
                                              obtain ⟨ad247, e247, hx247_0⟩ := Kd.at_bool (Kd.R_reads' HO_7.out).2.2 ((rd_T59 ((rd_T51 l0_3 x11_2).f1) x12_3).f1) p247 q247
                                              (try rw [← Nbq38.out] at hx247_0)
                                              cases e247
                                              replace p247 := eq_true p247
                                              replace q247 := eq_true q247
                                              go_wp2
                                              go_roundg kj19
                                              case measure => have := HK1.out; have := HK2.out; have := HK3.out; have := HJ19.out; omega
                                              case rel => (try rw [← Nbq38.out]); exact ⟨(true), (wrap64 (x12_3 + 1)), (by first | rfl | (simp; done) | (simp [*]; done)), (by first | rfl | (simp; done) | (simp [*]; done)), H', ⟨by have := HK1.out; have := HK2.out; have := HK3.out; have := HJ19.out; omega⟩, ⟨by (with_reducible repeat (first | apply Kd.R_alloc | apply Kd.R_drewN | apply Kd.R_drew)); exact HO_7.out⟩, ⟨by (with_reducible repeat (first | apply Kd.R_alloc | apply Kd.R_drewN | apply Kd.R_drew)); exact HO_8.out⟩, ⟨by (with_reducible repeat (first | refine blk_drewN ?_ _ | refine blk_drew ?_ | refine blk_alloc ?_ _)); exact BK232.out⟩, ⟨by repeat (first | (with_reducible first | exact HB.out | apply below_alloc | apply pw_below_drewN | apply below_drew1 | refine below_set ?_ GE232.out | refine below_set ?_ GE246.out) | exact HB.out)⟩⟩
                                            · replace c39 := Bool.eq_false_iff.mpr c39
                                              subst c39
                                              have H1 : (gramaryeref11_Next.l1 kj19 a1 false t233 x8_1 x9_1 true (wrap64 (x11_2 + 1)) a0_0 a0_1 l0_2 l0_3) = some r := by rw [if_neg (show ¬ (false = true) by decide)] at H; exact H
                                              clear H
                                              have H := H1
                                              clear H1
                                              have H' := Aside0.mk H
                                              clear H
                                              have hnb43 := NB246_232.out
                                              have hnc43 := NB232_246.out
                                              have hcz44_0 : wc.cell? ⟨gb246, 0, none⟩ = some (.bool ((rd_T59 ((rd_T51 l0_3 x11_2).f1) x12_3).f0)) := (blk_cell BK246.out 0).trans rfl
                                              have hcz44_1 : wc.cell? ⟨gb246, 1, none⟩ = some (.int .i64 ((rd_T59 ((rd_T51 l0_3 x11_2).f1) x12_3).f1)) := (blk_cell BK246.out 1).trans rfl
                                              have hfz44_0 := blk_frozen BK246.out 0
                                              have hfz44_1 := blk_frozen BK246.out 1
                                              obtain ⟨Ao45, co45, eo45⟩ := Kd.R_slice HO_7.out
                                              subst eo45
                                              have p247 : 0 ≤ (((rd_T59 ((rd_T51 l0_3 x11_2).f1) x12_3).f1) : Int) := of_decide_eq_true (by first | (with_reducible assumption) | assumption)
                                              have q247 : ((rd_T59 ((rd_T51 l0_3 x11_2).f1) x12_3).f1) < (t233.length : Int) := of_decide_eq_true (by first | (with_reducible assumption) | assumption)
                                              obtain ⟨ad247, e247, hx247_0⟩ := Kd.at_bool (Kd.R_reads' HO_7.out).2.2 ((rd_T59 ((rd_T51 l0_3 x11_2).f1) x12_3).f1) p247 q247
                                              (try rw [← Nbq38.out] at hx247_0)
                                              cases e247
                                              replace p247 := eq_true p247
                                              replace q247 := eq_true q247
                                              go_wp2
                                              go_roundg kj19
                                              case measure => have := HK1.out; have := HK2.out; have := HK3.out; have := HJ19.out; omega
                                              case rel => (try rw [← Nbq38.out]); exact ⟨(true), (wrap64 (x11_2 + 1)), (by first | rfl | (simp; done) | (simp [*]; done)), (by first | rfl | (simp; done) | (simp [*]; done)), H', ⟨by have := HK1.out; have := HK2.out; have := HK3.out; have := HJ19.out; omega⟩, ⟨by (with_reducible repeat (first | apply Kd.R_alloc | apply Kd.R_drewN | apply Kd.R_drew)); exact HO_7.out⟩, ⟨by (with_reducible repeat (first | apply Kd.R_alloc | apply Kd.R_drewN | apply Kd.R_drew)); exact HO_8.out⟩, ⟨by (with_reducible repeat (first | refine blk_drewN ?_ _ | refine blk_drew ?_ | refine blk_alloc ?_ _)); exact BK232.out⟩, ⟨by repeat (first | (with_reducible first | exact HB.out | apply below_alloc | apply pw_below_drewN | apply below_drew1 | refine below_set ?_ GE232.out | refine below_set ?_ GE246.out) | exact HB.out)⟩⟩
                                          · rw [if_neg c37] at H
                                            exact absurd H (by simp)
                                        · rw [if_neg c36] at H
                                          exact absurd H (by simp)
                                  · replace c31 := Bool.eq_false_iff.mpr c31
                                    subst c31
                                    have H1 : (if a2 = true then (gramaryeref11_Next.l2 kj19 a1 a2 t233 x8_1 x9_1 x10_3 x11_2 (wrap64 (x12_3 + 1)) a0_0 a0_1 l0_2 l0_3) else (if ((rd_T59 ((rd_T51 l0_3 x11_2).f1) x12_3).f0) = true then (gramaryeref11_Next.l1 kj19 a1 a2 t233 x8_1 x9_1 x10_3 (wrap64 (x11_2 + 1)) a0_0 a0_1 l0_2 l0_3) else (if 0 ≤ ((rd_T59 ((rd_T51 l0_3 x11_2).f1) x12_3).f1) then (if ((rd_T59 ((rd_T51 l0_3 x11_2).f1) x12_3).f1) < (t233.length : Int) then (if rdOf false t233 ((rd_T59 ((rd_T51 l0_3 x11_2).f1) x12_3).f1) = true then (gramaryeref11_Next.l2 kj19 a1 a2 t233 x8_1 x9_1 x10_3 x11_2 (wrap64 (x12_3 + 1)) a0_0 a0_1 l0_2 l0_3) else (gramaryeref11_Next.l1 kj19 a1 a2 t233 x8_1 x9_1 x10_3 (wrap64 (x11_2 + 1)) a0_0 a0_1 l0_2 l0_3)) else (none)) else (none)))) = some r := by rw [if_neg (show ¬ (false = true) by decide)] at H; exact H
                                    clear H
                                    have H := H1
                                    clear H1
                                    by_cases c46 : a2 = true
                                    · subst c46
                                      have H1 : (gramaryeref11_Next.l2 kj19 a1 true t233 x8_1 x9_1 x10_3 x11_2 (wrap64 (x12_3 + 1)) a0_0 a0_1 l0_2 l0_3) = some r := by rw [if_pos rfl] at H; exact H
                                      clear H
                                      have H := H1
                                      clear H1
                                      have H' := Aside0.mk H
                                      clear H
                                      go_wp2
                                      go_roundg kj19
                                      case measure => have := HK1.out; have := HK2.out; have := HK3.out; have := HJ19.out; omega
                                      case rel => exact ⟨(x10_3), (wrap64 (x12_3 + 1)), (by first | rfl | (simp; done) | (simp [*]; done)), (by first | rfl | (simp; done) | (simp [*]; done)), H', ⟨by have := HK1.out; have := HK2.out; have := HK3.out; have := HJ19.out; omega⟩, ⟨by (with_reducible repeat (first | apply Kd.R_alloc | apply Kd.R_drewN | apply Kd.R_drew)); exact HO_7.out⟩, ⟨by (with_reducible repeat (first | apply Kd.R_alloc | apply Kd.R_drewN | apply Kd.R_drew)); exact HO_8.out⟩, ⟨by (with_reducible repeat (first | refine blk_drewN ?_ _ | refine blk_drew ?_ | refine blk_alloc ?_ _)); exact BK232.out⟩, ⟨by repeat (first | (with_reducible first | exact HB.out | apply below_alloc | apply pw_below_drewN | apply below_drew1 | refine below_set ?_ GE232.out | refine below_set ?_ GE246.out) | exact HB.out)⟩⟩
                                    · replace c46 := Bool.eq_false_iff.mpr c46
                                      subst c46
                                      have H1 : (if ((rd_T59 ((rd_T51 l0_3 x11_2).f1) x12_3).f0) = true then (gramaryeref11_Next.l1 kj19 a1 false t233 x8_1 x9_1 x10_3 (wrap64 (x11_2 + 1)) a0_0 a0_1 l0_2 l0_3) else (if 0 ≤ ((rd_T59 ((rd_T51 l0_3 x11_2).f1) x12_3).f1) then (if ((rd_T59 ((rd_T51 l0_3 x11_2).f1) x12_3).f1) < (t233.length : Int) then (if rdOf false t233 ((rd_T59 ((rd_T51 l0_3 x11_2).f1) x12_3).f1) = true then (gramaryeref11_Next.l2 kj19 a1 false t233 x8_1 x9_1 x10_3 x11_2 (wrap64 (x12_3 + 1)) a0_0 a0_1 l0_2 l0_3) else (gramaryeref11_Next.l1 kj19 a1 false t233 x8_1 x9_1 x10_3 (wrap64 (x11_2 + 1)) a0_0 a0_1 l0_2 l0_3)) else (none)) else (none))) = some r := by rw [if_neg (show ¬ (false = true) by decide)] at H; exact H
                                      clear H
                                      have H := H1
                                      clear H1
                                      by_cases c47 : ((rd_T59 ((rd_T51 l0_3 x11_2).f1) x12_3).f0) = true
                                      · rw [if_pos c47] at H
                                        have c47b0 : ((rd_T59 ((rd_T51 l0_3 x11_2).f1) x12_3).f0) = true := c47
                                        clear c47
                                        have H' := Aside0.mk H
                                        clear H
                                        have hnb48 := NB246_232.out
                                        have hnc48 := NB232_246.out
                                        have hcz49_0 : wc.cell? ⟨gb246, 0, none⟩ = some (.bool ((rd_T59 ((rd_T51 l0_3 x11_2).f1) x12_3).f0)) := (blk_cell BK246.out 0).trans rfl
                                        have hcz49_1 : wc.cell? ⟨gb246, 1, none⟩ = some (.int .i64 ((rd_T59 ((rd_T51 l0_3 x11_2).f1) x12_3).f1)) := (blk_cell BK246.out 1).trans rfl
                                        have hfz49_0 := blk_frozen BK246.out 0
                                        have hfz49_1 := blk_frozen BK246.out 1
                                        go_wp2
                                        go_roundg kj19
                                        case measure => have := HK1.out; have := HK2.out; have := HK3.out; have := HJ19.out; omega
                                        case rel => exact ⟨(x10_3), (wrap64 (x11_2 + 1)), (by first | rfl | (simp; done) | (simp [*]; done)), (by first | rfl | (simp; done) | (simp [*]; done)), H', ⟨by have := HK1.out; have := HK2.out; have := HK3.out; have := HJ19.out; omega⟩, ⟨by (with_reducible repeat (first | apply Kd.R_alloc | apply Kd.R_drewN | apply Kd.R_drew)); exact HO_7.out⟩, ⟨by (with_reducible repeat (first | apply Kd.R_alloc | apply Kd.R_drewN | apply Kd.R_drew)); exact HO_8.out⟩, ⟨by (with_reducible repeat (first | refine blk_drewN ?_ _ | refine blk_drew ?_ | refine blk_alloc ?_ _)); exact BK232.out⟩, ⟨by repeat (first | (with_reducible first | exact HB.out | apply below_alloc | apply pw_below_drewN | apply below_drew1 | refine below_set ?_ GE232.out | refine below_set ?_ GE246.out) | exact HB.out)⟩⟩
                                      · rw [if_neg c47] at H
                                        have c47b0 : ((rd_T59 ((rd_T51 l0_3 x11_2).f1) x12_3).f0) = false := by simpa using c47
                                        clear c47
                                        by_cases c50 : 0 ≤ ((rd_T59 ((rd_T51 l0_3 x11_2).f1) x12_3).f1)
                                        · rw [if_pos c50] at H
                                          have c50b0 : decide (0 ≤ ((rd_T59 ((rd_T51 l0_3 x11_2).f1) x12_3).f1)) = true := decide_eq_true c50
                                          clear c50
                                          by_cases c51 : ((rd_T59 ((rd_T51 l0_3 x11_2).f1) x12_3).f1) < (t233.length : Int)
                                          · rw [if_pos c51] at H
                                            have c51b0 : decide (((rd_T59 ((rd_T51 l0_3 x11_2).f1) x12_3).f1) < (t233.length : Int)) = true := decide_eq_true c51
                                            clear c51
                                            obtain ⟨bq52, hbq52⟩ : ∃ b_ : Bool, b_ = (rdOf false t233 ((rd_T59 ((rd_T51 l0_3 x11_2).f1) x12_3).f1)) := ⟨_, rfl⟩
                                            replace H : (if bq52 = true then (gramaryeref11_Next.l2 kj19 a1 false t233 x8_1 x9_1 x10_3 x11_2 (wrap64 (x12_3 + 1)) a0_0 a0_1 l0_2 l0_3) else (gramaryeref11_Next.l1 kj19 a1 false t233 x8_1 x9_1 x10_3 (wrap64 (x11_2 + 1)) a0_0 a0_1 l0_2 l0_3)) = some r := by rw [← hbq52] at H; exact H
                                            have Nbq52 := Aside0.mk hbq52
                                            clear hbq52
                                            by_cases c53 : bq52 = true
                                            · subst c53
                                              have H1 : (gramaryeref11_Next.l2 kj19 a1 false t233 x8_1 x9_1 x10_3 x11_2 (wrap64 (x12_3 + 1)) a0_0 a0_1 l0_2 l0_3) = some r := by rw [if_pos rfl] at H; exact H
                                              clear H
                                              have H := H1
                                              clear H1
                                              have H' := Aside0.mk H
                                              clear H
                                              have hnb54 := NB246_232.out
                                              have hnc54 := NB232_246.out
                                              have hcz55_0 : wc.cell? ⟨gb246, 0, none⟩ = some (.bool ((rd_T59 ((rd_T51 l0_3 x11_2).f1) x12_3).f0)) := (blk_cell BK246.out 0).trans rfl
                                              have hcz55_1 : wc.cell? ⟨gb246, 1, none⟩ = some (.int .i64 ((rd_T59 ((rd_T51 l0_3 x11_2).f1) x12_3).f1)) := (blk_cell BK246.out 1).trans rfl
                                              have hfz55_0 := blk_frozen BK246.out 0
                                              have hfz55_1 := blk_frozen BK246.out 1
                                              obtain ⟨Ao56, co56, eo56⟩ := Kd.R_slice HO_7.out
                                              subst eo56
                                              have p248 : 0 ≤ (((rd_T59 ((rd_T51 l0_3 x11_2).f1) x12_3).f1) : Int) := of_decide_eq_true (by first | (with_reducible assumption) | assumption)
                                              have q248 : ((rd_T59 ((rd_T51 l0_3 x11_2).f1) x12_3).f1) < (t233.length : Int) := of_decide_eq_true (by first | (with_reducible assumption) | assumption)
                                              obtain ⟨ad248, e248, hx248_0⟩ := Kd.at_bool (Kd.R_reads' HO_7.out).2.2 ((rd_T59 ((rd_T51 l0_3 x11_2).f1) x12_3).f1) p248 q248
                                              (try rw [← Nbq52.out] at hx248_0)
                                              cases e248
                                              replace p248 := eq_true p248
                                              replace q248 := eq_true q248
                                              go_wp2
                                              go_roundg kj19
                                              case measure => have := HK1.out; have := HK2.out; have := HK3.out; have := HJ19.out; omega
                                              case rel => (try rw [← Nbq52.out]); exact ⟨(x10_3), (wrap64 (x12_3 + 1)), (by first | rfl | (simp; done) | (simp [*]; done)), (by first | rfl | (simp; done) | (simp [*]; done)), H', ⟨by have := HK1.out; have := HK2.out; have := HK3.out; have := HJ19.out; omega⟩, ⟨by (with_reducible repeat (first | apply Kd.R_alloc | apply Kd.R_drewN | apply Kd.R_drew)); exact HO_7.out⟩, ⟨by (with_reducible repeat (first | apply Kd.R_alloc | apply Kd.R_drewN | apply Kd.R_drew)); exact HO_8.out⟩, ⟨by (with_reducible repeat (first | refine blk_drewN ?_ _ | refine blk_drew ?_ | refine blk_alloc ?_ _)); exact BK232.out⟩, ⟨by repeat (first | (with_reducible first | exact HB.out | apply below_alloc | apply pw_below_drewN | apply below_drew1 | refine below_set ?_ GE232.out | refine below_set ?_ GE246.out) | exact HB.out)⟩⟩
                                            · replace c53 := Bool.eq_false_iff.mpr c53
                                              subst c53
                                              have H1 : (gramaryeref11_Next.l1 kj19 a1 false t233 x8_1 x9_1 x10_3 (wrap64 (x11_2 + 1)) a0_0 a0_1 l0_2 l0_3) = some r := by rw [if_neg (show ¬ (false = true) by decide)] at H; exact H
                                              clear H
                                              have H := H1
                                              clear H1
                                              have H' := Aside0.mk H
                                              clear H
                                              have hnb57 := NB246_232.out
                                              have hnc57 := NB232_246.out
                                              have hcz58_0 : wc.cell? ⟨gb246, 0, none⟩ = some (.bool ((rd_T59 ((rd_T51 l0_3 x11_2).f1) x12_3).f0)) := (blk_cell BK246.out 0).trans rfl
                                              have hcz58_1 : wc.cell? ⟨gb246, 1, none⟩ = some (.int .i64 ((rd_T59 ((rd_T51 l0_3 x11_2).f1) x12_3).f1)) := (blk_cell BK246.out 1).trans rfl
                                              have hfz58_0 := blk_frozen BK246.out 0
                                              have hfz58_1 := blk_frozen BK246.out 1
                                              obtain ⟨Ao59, co59, eo59⟩ := Kd.R_slice HO_7.out
                                              subst eo59
                                              have p248 : 0 ≤ (((rd_T59 ((rd_T51 l0_3 x11_2).f1) x12_3).f1) : Int) := of_decide_eq_true (by first | (with_reducible assumption) | assumption)
                                              have q248 : ((rd_T59 ((rd_T51 l0_3 x11_2).f1) x12_3).f1) < (t233.length : Int) := of_decide_eq_true (by first | (with_reducible assumption) | assumption)
                                              obtain ⟨ad248, e248, hx248_0⟩ := Kd.at_bool (Kd.R_reads' HO_7.out).2.2 ((rd_T59 ((rd_T51 l0_3 x11_2).f1) x12_3).f1) p248 q248
                                              (try rw [← Nbq52.out] at hx248_0)
                                              cases e248
                                              replace p248 := eq_true p248
                                              replace q248 := eq_true q248
                                              go_wp2
                                              go_roundg kj19
                                              case measure => have := HK1.out; have := HK2.out; have := HK3.out; have := HJ19.out; omega
                                              case rel => (try rw [← Nbq52.out]); exact ⟨(x10_3), (wrap64 (x11_2 + 1)), (by first | rfl | (simp; done) | (simp [*]; done)), (by first | rfl | (simp; done) | (simp [*]; done)), H', ⟨by have := HK1.out; have := HK2.out; have := HK3.out; have := HJ19.out; omega⟩, ⟨by (with_reducible repeat (first | apply Kd.R_alloc | apply Kd.R_drewN | apply Kd.R_drew)); exact HO_7.out⟩, ⟨by (with_reducible repeat (first | apply Kd.R_alloc | apply Kd.R_drewN | apply Kd.R_drew)); exact HO_8.out⟩, ⟨by (with_reducible repeat (first | refine blk_drewN ?_ _ | refine blk_drew ?_ | refine blk_alloc ?_ _)); exact BK232.out⟩, ⟨by repeat (first | (with_reducible first | exact HB.out | apply below_alloc | apply pw_below_drewN | apply below_drew1 | refine below_set ?_ GE232.out | refine below_set ?_ GE246.out) | exact HB.out)⟩⟩
                                          · rw [if_neg c51] at H
                                            exact absurd H (by simp)
                                        · rw [if_neg c50] at H
                                          exact absurd H (by simp)
                            · rw [if_neg c19] at H
                              exact absurd H (by simp)
                          · rw [if_neg c18] at H
                            have c18b0 : decide (x12_3 < (((rd_T51 l0_3 x11_2).f1).length : Int)) = false := decide_eq_false c18
                            clear c18
                            have H' := Aside0.mk H
                            clear H
                            have hcz60_0 : wr.cell? ⟨gb232, 0, none⟩ = some (.int .i64 a0_0) := (blk_cell BK232.out 0).trans rfl
                            have hcz60_1 : wr.cell? ⟨gb232, 1, none⟩ = some (.int .i64 a0_1) := (blk_cell BK232.out 1).trans rfl
                            have hcz60_2 : wr.cell? ⟨gb232, 2, none⟩ = some (.slice A0_2 l0_2.length c0_2) := (blk_cell BK232.out 2).trans rfl
                            have hcz60_3 : wr.cell? ⟨gb232, 3, none⟩ = some (.slice (some ad242) l0_3.length c0_3) := (blk_cell BK232.out 3).trans rfl
                            have hfz60_0 := blk_frozen BK232.out 0
                            have hfz60_1 := blk_frozen BK232.out 1
                            have hfz60_2 := blk_frozen BK232.out 2
                            have hfz60_3 := blk_frozen BK232.out 3
                            have p243 : 0 ≤ (x11_2 : Int) := of_decide_eq_true (by first | (with_reducible assumption) | assumption)
                            have q243 : x11_2 < (l0_3.length : Int) := of_decide_eq_true (by first | (with_reducible assumption) | assumption)
                            obtain ⟨ad243, A243_1, c243_1, e243, hx243_0, hx243_1, hl243_1, hi243_1⟩ := at_T51 HR0_3.out x11_2 p243 q243
                            obtain rfl : ad242 = ad243 := (by injection e243)
                            have Nhx243_0 := Aside0.mk hx243_0; replace hx243_0 := (HB.out.cell (World.block_lt_of_cell? w _ hx243_0)).trans hx243_0
                            have Nhx243_1 := Aside0.mk hx243_1; replace hx243_1 := (HB.out.cell (World.block_lt_of_cell? w _ hx243_1)).trans hx243_1
                            have HR243_1 := Aside0.mk hi243_1
                            have HC243_1 := Aside0.mk hl243_1
                            clear hi243_1 hl243_1
                            replace p243 := eq_true p243
                            replace q243 := eq_true q243
                            go_wp2
                            go_roundg k3
                            case measure => have := HK1.out; have := HK2.out; have := HK3.out; omega
                            case rel => exact ⟨(x10_3), (wrap64 (x11_2 + 1)), (by first | rfl | (simp; done) | (simp [*]; done)), (by first | rfl | (simp; done) | (simp [*]; done)), H', ⟨by have := HK1.out; have := HK2.out; have := HK3.out; omega⟩, ⟨by (with_reducible repeat (first | apply Kd.R_alloc | apply Kd.R_drewN | apply Kd.R_drew)); exact HO_7.out⟩, ⟨by (with_reducible repeat (first | apply Kd.R_alloc | apply Kd.R_drewN | apply Kd.R_drew)); exact HO_8.out⟩, ⟨by (with_reducible repeat (first | refine blk_drewN ?_ _ | refine blk_drew ?_ | refine blk_alloc ?_ _)); exact BK232.out⟩, ⟨by repeat (first | (with_reducible first | exact HB.out | apply below_alloc | apply pw_below_drewN | apply below_drew1 | refine below_set ?_ GE232.out) | exact HB.out)⟩⟩
                        · rw [if_neg c17] at H
                          exact absurd H (by simp)
                      · rw [if_neg c16] at H
                        exact absurd H (by simp)
                · rw [if_neg c14] at H
                  have c14b0 : (((rd_T51 l0_3 x11_2).f0) == a1) = false := beq_eq_false_iff_ne.mpr c14
                  have c14b1 : (((rd_T51 l0_3 x11_2).f0) != a1) = true := bne_iff_ne.mpr c14
                  have H' := Aside0.mk H
                  clear H
                  have hcz61_0 : wr.cell? ⟨gb232, 0, none⟩ = some (.int .i64 a0_0) := (blk_cell BK232.out 0).trans rfl
                  have hcz61_1 : wr.cell? ⟨gb232, 1, none⟩ = some (.int .i64 a0_1) := (blk_cell BK232.out 1).trans rfl
                  have hcz61_2 : wr.cell? ⟨gb232, 2, none⟩ = some (.slice A0_2 l0_2.length c0_2) := (blk_cell BK232.out 2).trans rfl
                  have hcz61_3 : wr.cell? ⟨gb232, 3, none⟩ = some (.slice A0_3 l0_3.length c0_3) := (blk_cell BK232.out 3).trans rfl
                  have hfz61_0 := blk_frozen BK232.out 0
                  have hfz61_1 := blk_frozen BK232.out 1
                  have hfz61_2 := blk_frozen BK232.out 2
                  have hfz61_3 := blk_frozen BK232.out 3
                  have p242 : 0 ≤ (x11_2 : Int) := of_decide_eq_true (by first | (with_reducible assumption) | assumption)
                  have q242 : x11_2 < (l0_3.length : Int) := of_decide_eq_true (by first | (with_reducible assumption) | assumption)
                  obtain ⟨ad242, A242_1, c242_1, e242, hx242_0, hx242_1, hl242_1, hi242_1⟩ := at_T51 HR0_3.out x11_2 p242 q242
                  cases e242
                  have Nhx242_0 := Aside0.mk hx242_0; replace hx242_0 := (HB.out.cell (World.block_lt_of_cell? w _ hx242_0)).trans hx242_0
                  have Nhx242_1 := Aside0.mk hx242_1; replace hx242_1 := (HB.out.cell (World.block_lt_of_cell? w _ hx242_1)).trans hx242_1
                  have HR242_1 := Aside0.mk hi242_1
                  have HC242_1 := Aside0.mk hl242_1
                  clear hi242_1 hl242_1
                  replace p242 := eq_true p242
                  replace q242 := eq_true q242
                  go_wp2
                  go_roundg k2
                  case measure => have := HK1.out; have := HK2.out; omega
                  case rel => exact ⟨(x10_2), (wrap64 (x11_2 + 1)), (by first | rfl | (simp; done) | (simp [*]; done)), (by first | rfl | (simp; done) | (simp [*]; done)), H', ⟨by have := HK1.out; have := HK2.out; omega⟩, ⟨by (with_reducible repeat (first | apply Kd.R_alloc | apply Kd.R_drewN | apply Kd.R_drew)); exact HO_7.out⟩, ⟨by (with_reducible repeat (first | apply Kd.R_alloc | apply Kd.R_drewN | apply Kd.R_drew)); exact HO_8.out⟩, ⟨by (with_reducible repeat (first | refine blk_drewN ?_ _ | refine blk_drew ?_ | refine blk_alloc ?_ _)); exact BK232.out⟩, ⟨by repeat (first | (with_reducible first | exact HB.out | apply below_alloc | apply pw_below_drewN | apply below_drew1 | refine below_set ?_ GE232.out) | exact HB.out)⟩⟩
              · rw [if_neg c13] at H
                exact absurd H (by simp)
            · rw [if_neg c12] at H
              have c12b0 : decide (x11_2 < (l0_3.length : Int)) = false := decide_eq_false c12
              clear c12
              by_cases c62 : x10_2 = true
              · subst c62
                have H1 : (if x8_1.length < 17592186044416 then (gramaryeref11_Next.l0 k2 a1 a2 t233 (x8_1 ++ [x9_1]) (wrap64 (x9_1 + 1)) a0_0 a0_1 l0_2 l0_3) else (none)) = some r := by rw [if_pos rfl] at H; exact H
                clear H
                have H := H1
                clear H1
                by_cases c63 : x8_1.length < 17592186044416
                · rw [if_pos c63] at H
                  have LMc63 := Aside0.mk c63
                  clear c63
                  obtain ⟨y239, hy239⟩ : ∃ y_ : List Int, y_ = (x8_1 ++ [x9_1]) := ⟨_, rfl⟩
                  replace H : (gramaryeref11_Next.l0 k2 a1 a2 t233 y239 (wrap64 (x9_1 + 1)) a0_0 a0_1 l0_2 l0_3) = some r := by first | (rw [hy239]; with_reducible exact H) | (have H2_ := (Option.bind_some _ _).symm.trans H; rw [hy239]; with_reducible exact H2_) | (have H2_ := (Option.bind_some _ _).symm.trans H; with_reducible exact H2_) | with_reducible exact H | (rw [hy239]; exact H) | exact H
                  have Ny239 := Aside0.mk hy239
                  clear hy239
                  have H' := Aside0.mk H
                  clear H
                  have hcz64_0 : wr.cell? ⟨gb232, 0, none⟩ = some (.int .i64 a0_0) := (blk_cell BK232.out 0).trans rfl
                  have hcz64_1 : wr.cell? ⟨gb232, 1, none⟩ = some (.int .i64 a0_1) := (blk_cell BK232.out 1).trans rfl
                  have hcz64_2 : wr.cell? ⟨gb232, 2, none⟩ = some (.slice A0_2 l0_2.length c0_2) := (blk_cell BK232.out 2).trans rfl
                  have hcz64_3 : wr.cell? ⟨gb232, 3, none⟩ = some (.slice A0_3 l0_3.length c0_3) := (blk_cell BK232.out 3).trans rfl
                  have hfz64_0 := blk_frozen BK232.out 0
                  have hfz64_1 := blk_frozen BK232.out 1
                  have hfz64_2 := blk_frozen BK232.out 2
                  have hfz64_3 := blk_frozen BK232.out 3
                  go_wp2_with (first | ((with_reducible refine gate_builtin (b := .append) (xs := #[.tmp 83, .tmp 85]) rfl ?_); at_builtin; refine Kd.R_append (Kd.int .i64) (w0 := w) w.heap.size rfl (.tmp 83) (.tmp 85) 22 3 (.int .i64 0) 8 rfl Try.underlying22 info3 rfl (by decide) (by omega) u8 x8_1 x9_1 [.int .i64 x9_1] (fun _ => True) (fun _ => False) rfl rfl ?aP (fun _ hk => hk.elim) ?aF ?aO ?aB ?aS ?aL ?_; (case aP => exact rfl); (case aB => exact (by repeat (first | (with_reducible first | exact HB.out | apply below_alloc | apply pw_below_drewN | apply below_drew1 | refine below_set ?_ GE232.out) | exact HB.out))); (case aF => exact (fun _ _ => trivial)); (case aO => exact (by (with_reducible repeat (first | apply Kd.R_alloc | apply Kd.R_drewN | apply Kd.R_drew)); exact HO_8.out)); (case aS => exact (below_size (by repeat (first | (with_reducible first | exact HB.out | apply below_alloc | apply pw_below_drewN | apply below_drew1 | refine below_set ?_ GE232.out) | exact HB.out)))); (case aL => have := LMc63.out; omega); intro v240 w65 ho hb hg hat; rw [← Ny239.out] at ho; have n0_ := Aside0.mk (Kd.R_over' (by (with_reducible repeat (first | apply Kd.R_alloc | apply Kd.R_drewN | apply Kd.R_drew)); exact HO_7.out) (Kd.R_typed (by (with_reducible repeat (first | apply Kd.R_alloc | apply Kd.R_drewN | apply Kd.R_drew)); exact HO_8.out)) (by decide) hg); have n1_ := Aside0.mk (blk_grown (g := gb232) (o := .cells #[.int .i64 a0_0, .int .i64 a0_1, .slice A0_2 l0_2.length c0_2, .slice A0_3 l0_3.length c0_3] 25 (0, 0)) (by (with_reducible repeat (first | refine blk_drewN ?_ _ | refine blk_drew ?_ | refine blk_alloc ?_ _)); exact BK232.out) hg (Kd.R_ne HO_8.out BK232.out (by decide))); have n2_ := Aside0.mk (hb); have n3_ := Aside0.mk (ho); clear HO_7; clear BK232; clear HB; clear HO_8; have HO_7 := n0_; have BK232 := n1_; have HB := n2_; have HO241 := n3_; clear n0_ n1_ n2_ n3_; clear ho hb hg hat))
                  go_roundg k2
                  case measure => have := HK1.out; have := HK2.out; omega
                  case rel => exact ⟨(y239), (wrap64 (x9_1 + 1)), (by first | rfl | (simp; done) | (simp [*]; done)), H', ⟨by have := HK1.out; have := HK2.out; omega⟩, ⟨by (with_reducible repeat (first | apply Kd.R_alloc | apply Kd.R_drewN | apply Kd.R_drew)); exact HO_7.out⟩, ⟨by (with_reducible repeat (first | apply Kd.R_alloc | apply Kd.R_drewN | apply Kd.R_drew)); exact HO241.out⟩, ⟨by (with_reducible repeat (first | refine blk_drewN ?_ _ | refine blk_drew ?_ | refine blk_alloc ?_ _)); exact BK232.out⟩, ⟨by repeat (first | (with_reducible first | exact HB.out | apply below_alloc | apply pw_below_drewN | apply below_drew1 | refine below_set ?_ GE232.out) | exact HB.out)⟩⟩
                · rw [if_neg c63] at H
                  exact absurd H (by simp)
              · replace c62 := Bool.eq_false_iff.mpr c62
                subst c62
                have H1 : (gramaryeref11_Next.l0 k2 a1 a2 t233 x8_1 (wrap64 (x9_1 + 1)) a0_0 a0_1 l0_2 l0_3) = some r := by rw [if_neg (show ¬ (false = true) by decide)] at H; exact H
                clear H
                have H := H1
                clear H1
                have H' := Aside0.mk H
                clear H
                have hcz66_0 : wr.cell? ⟨gb232, 0, none⟩ = some (.int .i64 a0_0) := (blk_cell BK232.out 0).trans rfl
                have hcz66_1 : wr.cell? ⟨gb232, 1, none⟩ = some (.int .i64 a0_1) := (blk_cell BK232.out 1).trans rfl
                have hcz66_2 : wr.cell? ⟨gb232, 2, none⟩ = some (.slice A0_2 l0_2.length c0_2) := (blk_cell BK232.out 2).trans rfl
                have hcz66_3 : wr.cell? ⟨gb232, 3, none⟩ = some (.slice A0_3 l0_3.length c0_3) := (blk_cell BK232.out 3).trans rfl
                have hfz66_0 := blk_frozen BK232.out 0
                have hfz66_1 := blk_frozen BK232.out 1
                have hfz66_2 := blk_frozen BK232.out 2
                have hfz66_3 := blk_frozen BK232.out 3
                go_wp2
                go_roundg k2
                case measure => have := HK1.out; have := HK2.out; omega
                case rel => exact ⟨(x8_1), (wrap64 (x9_1 + 1)), (by first | rfl | (simp; done) | (simp [*]; done)), H', ⟨by have := HK1.out; have := HK2.out; omega⟩, ⟨by (with_reducible repeat (first | apply Kd.R_alloc | apply Kd.R_drewN | apply Kd.R_drew)); exact HO_7.out⟩, ⟨by (with_reducible repeat (first | apply Kd.R_alloc | apply Kd.R_drewN | apply Kd.R_drew)); exact HO_8.out⟩, ⟨by (with_reducible repeat (first | refine blk_drewN ?_ _ | refine blk_drew ?_ | refine blk_alloc ?_ _)); exact BK232.out⟩, ⟨by repeat (first | (with_reducible first | exact HB.out | apply below_alloc | apply pw_below_drewN | apply below_drew1 | refine below_set ?_ GE232.out) | exact HB.out)⟩⟩
      · rw [if_neg c10] at H
        have c10b0 : decide (x9_1 < (l0_2.length : Int)) = false := decide_eq_false c10
        clear c10
        obtain rfl := Option.some.inj H
        have hcz67_0 : wr.cell? ⟨gb232, 0, none⟩ = some (.int .i64 a0_0) := (blk_cell BK232.out 0).trans rfl
        have hcz67_1 : wr.cell? ⟨gb232, 1, none⟩ = some (.int .i64 a0_1) := (blk_cell BK232.out 1).trans rfl
        have hcz67_2 : wr.cell? ⟨gb232, 2, none⟩ = some (.slice A0_2 l0_2.length c0_2) := (blk_cell BK232.out 2).trans rfl
        have hcz67_3 : wr.cell? ⟨gb232, 3, none⟩ = some (.slice A0_3 l0_3.length c0_3) := (blk_cell BK232.out 3).trans rfl
        have hfz67_0 := blk_frozen BK232.out 0
        have hfz67_1 := blk_frozen BK232.out 1
        have hfz67_2 := blk_frozen BK232.out 2
        have hfz67_3 := blk_frozen BK232.out 3
        go_wp2
        go_ret
        exact ⟨_, by first | rfl | (simp [errW_none, errW_some] <;> rfl) | (simp [*, errW_none, errW_some] <;> rfl), by (with_reducible repeat (first | apply Kd.R_alloc | apply Kd.R_drewN | apply Kd.R_drew)); exact HO_8.out, by repeat (first | (with_reducible first | exact HB.out | apply below_alloc | apply pw_below_drewN | apply below_drew1 | refine below_set ?_ GE232.out) | exact HB.out)⟩
end Go.Proofs.Ytmpdilifoblnaaa.MReachTells
end
