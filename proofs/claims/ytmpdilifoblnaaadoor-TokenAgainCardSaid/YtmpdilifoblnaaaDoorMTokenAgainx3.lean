-- A text of this claim (written by this repo's wip/myprint.py).
import Derived.Test.YtmpdilifoblnaaaDoorMTokenAgainx0
import Derived.Test.YtmpdilifoblnaaaDoorMTokenAgainx1
import Derived.Test.YtmpdilifoblnaaaDoorMTokenAgainx2
namespace Go.Proofs.YtmpdilifoblnaaaDoor.MTokenAgain
open Go.RowKit Go.Proofs.YtmpdilifoblnaaaDoorW.PrintWords Go.Proofs.YtmpdilifoblnaaaDoorW.PrintLast Go.Proofs.YtmpdilifoblnaaaDoorW.PrintMore Go.Proofs.YtmpdilifoblnaaaDoor.Fun Go.Proofs.YtmpdilifoblnaaaDoor.Glob
attribute [local go_sem] max2_int min2_int max_two min_two max_three min_three max_four min_four   -- for this text's walks alone
set_option linter.unusedVariables false
set_option linter.unusedSimpArgs false

/-! ### token_All: function 7 -/
def allG (a0 : ByteArray) : Nat → List S31 → ByteArray → Int → Int → Int → ByteArray → Int → Int → Int → Option (List S31 × Int × Int)
  | 0, _, _, _, _, _, _, _, _, _ => none
  | n + 1, l, s, at_, fr, kd, ts, tn, tp, er => match token_scanner_piece.f 20 s at_ fr (-1) kd ts tn tp er with
    | none => none
    | some (b, s', at', fr', ln', kd', ts', tn', tp', er') =>
      if b = true then
        (if l.length + 2 < 3518437208883 then allG a0 n ((if 0 ≤ ln' ∧ 0 < l.length then l ++ [(⟨5, (⟨#[10]⟩ : ByteArray), 0, ln'⟩ : S31)] else l) ++ [(⟨kd', ts', tn', tp'⟩ : S31)]) s' at' fr' kd' ts' tn' tp' er' else none)
      else if er' = 0 then some (l, (a0.size : Int), 0) else some ([], fr', er')
def token_All.f (a0 : ByteArray) : Option (List S31 × Int × Int) :=
  if (a0.size : Int) > 1000000 then some ([], 0, 7) else allG a0 (a0.size + 2) [] a0 0 0 0 ⟨#[]⟩ 0 0 0
theorem token_All.info : (Tryd.prog.info? 31).map (fun i => (i.zero, i.size, i.bytes)) = some (some (.agg #[(.int .i64 0), (.string ⟨#[]⟩), (.int .i64 0), (.int .i64 0)]), 4, 40) := by kernel_rfl
set_option maxHeartbeats 8000000 in
set_option maxRecDepth 100000 in
theorem token_All.calls (a0 : ByteArray) (r1 : List S31) (r2 : Int) (r3 : Int) (w : World) (h : token_All.f a0 = some (r1, r2, r3)) (hG : GResv w := by first | assumption | (unfold GResv at *; repeat (first | assumption | apply Holds.drewN | apply Holds.drew | apply Holds.alloc | exact Holds.drawn (by assumption) (by assumption) | exact Holds.aside (by assumption) (by assumption)))) :
    Calls Tryd.prog 7 #[.string a0] w fun e w' => ∃ v0_ : Value, e = .returned (.tuple #[v0_, .int .i64 r2, .int .i64 r3]) ∧ Kd.R k31 31 w' w.heap.size (fun _ => True) v0_ r1 ∧ Below w.heap.size w w' := by
  have huT := Tryd.underlying31
  have HG := Aside0.mk hG
  clear hG
  have HB := Aside0.mk (Below.refl w.heap.size w)
  unfold token_All.f at h
  by_cases c2 : (a0.size : Int) > 1000000
  · rw [if_pos c2] at h
    have c2b0 : decide (1000000 < (a0.size : Int)) = true := decide_eq_true c2
    have c2b1 : decide (1000000 < a0.size) = true := decide_eq_true (by omega)
    clear c2
    simp only [Option.some.injEq, Prod.mk.injEq] at h
    obtain ⟨rfl, rfl, rfl⟩ := h
    go_enter Tryd.func7, Tryd.ntmps7
    go_wp2
    go_ret3
    exact ⟨_, rfl, Kd.R_nil _ _ _ _ _, by repeat (first | (with_reducible first | exact HB.out | apply below_alloc | apply pw_below_drewN | apply below_drew1) | exact HB.out)⟩
  · rw [if_neg c2] at h
    have c2b0 : decide (1000000 < (a0.size : Int)) = false := decide_eq_false c2
    have c2b1 : decide (1000000 < a0.size) = false := decide_eq_false (by omega)
    clear c2
    have H' := Aside0.mk h
    clear h
    go_enter Tryd.func7, Tryd.ntmps7
    go_wp2_with (first | ((with_reducible refine gate_dst (N := 12) rfl ?_); (try (refine gate_guard (by rfl) ?_; dsimp only)); refine box_event ?hg (N := 12) ?hd (cs := #[.string a0, .int .i64 0, .int .i64 0, .int .i64 (-1), .int .i64 0, .string (⟨#[]⟩ : ByteArray), .int .i64 0, .int .i64 0, .int .i64 0]) (t := 36) ?hr ?_; (case hd => rfl); (case hg => rfl); (case hr => first | (go_simp; done) | (go_simp; rfl)); intro g hg w1 hbox hb; have n1_ := Aside0.mk (below_step (by repeat (first | (with_reducible first | exact HB.out | apply below_alloc | apply pw_below_drewN | apply below_drew1) | exact HB.out)) hb); have HI := Aside0.mk (show IsS36 w w1 g a0 0 0 (-1) 0 (⟨#[]⟩ : ByteArray) 0 0 0 from ⟨hbox, by rw [hg]; exact (below_size (by repeat (first | (with_reducible first | exact HB.out | apply below_alloc | apply pw_below_drewN | apply below_drew1) | exact HB.out)))⟩); clear HB; have HB := n1_; clear n1_ hbox hb hg))
    go_loopg [6] (a0.size + 2) (fun kq v6 w' => ∃ (l : List S31) (s : ByteArray) (at_ fr kd : Int) (ts : ByteArray) (tn tp er : Int), Aside0 (allG a0 kq l s at_ fr kd ts tn tp er = some (r1, r2, r3)) ∧ Aside0 (IsS36 w w' g s at_ fr (-1) kd ts tn tp er) ∧ Aside0 (Kd.R k31 31 w' w.heap.size (fun k_ => k_ ≠ g) v6 l) ∧ Aside0 (Below w.heap.size w w'))
    case atStart => exact ⟨[], a0, 0, 0, 0, ⟨#[]⟩, 0, 0, 0, H', HI, ⟨Kd.R_nil _ _ _ _ _⟩, HB⟩
    case round =>
      clear H' HI HB
      obtain ⟨l, s, at_, fr, kd, ts, tn, tp, er, HA, HI, HO, HB⟩ := hrel
      cases gk with
      | zero => exact absurd HA.out (by simp [allG])
      | succ k1 =>
        have H := HA.out
        clear HA
        unfold allG at H
        cases hp : token_scanner_piece.f 20 s at_ fr (-1) kd ts tn tp er with
        | none => rw [hp] at H; exact absurd H (by simp)
        | some r =>
          obtain ⟨b, s', at', fr', ln', kd', ts', tn', tp', er'⟩ := r
          rw [hp] at H
          simp only [] at H
          have HP := Aside0.mk hp
          clear hp
          have HR := Aside0.mk H
          clear H
          go_wp2_with fail
          refine (token_scanner_piece.calls 20 g s at_ fr (-1) kd ts tn tp er _ _ _ _ _ _ _ _ _ _ w _ HI.out HB.out HP.out HG.out).mono ?_
          rintro e w2 ⟨rfl, hi, hb, hk⟩
          have n0_ := Aside0.mk (Kd.R_keep HO.out hk (fun _ h => h))
          clear HO HI HB hk HP
          have HO := n0_
          have HI := Aside0.mk hi
          have HB := Aside0.mk hb
          clear n0_ hi hb
          have HS := Aside0.mk (show Sx w w2 w2 g s' at' fr' ln' kd' ts' tn' tp' er' from ⟨HI.out, HB.out, KeepBut.refl _ _ _⟩)
          have c3 := HS.out.c 3
          have f3 := HS.out.f 3
          have c2' := HS.out.c 2
          have c8 := HS.out.c 8
          simp at c3 c2' c8
          cases b with
          | false =>
            have H := HR.out
            rw [if_neg (by decide)] at H
            by_cases he : er' = 0
            · rw [if_pos he] at H
              have he1 : (er' != 0) = false := bne_eq_false_iff_eq.mpr he
              have he2 : decide (er' ≠ 0) = false := decide_eq_false (fun h => h he)
              simp only [Option.some.injEq, Prod.mk.injEq] at H
              obtain ⟨rfl, rfl, rfl⟩ := H
              clear he
              go_wp2_with fail
              go_ret3
              exact ⟨_, rfl, Kd.R_mono HO.out (fun _ _ => trivial), HB.out⟩
            · rw [if_neg he] at H
              have he1 : (er' != 0) = true := bne_iff_ne.mpr he
              have he2 : decide (er' ≠ 0) = true := decide_eq_true he
              simp only [Option.some.injEq, Prod.mk.injEq] at H
              obtain ⟨rfl, rfl, rfl⟩ := H
              clear he
              go_wp2_with fail
              go_region
              go_wp2_with fail
              go_ret3
              exact ⟨_, rfl, Kd.R_nil _ _ _ _ _, below_drew1 HB.out⟩
          | true =>
            have H := HR.out
            rw [if_pos rfl] at H
            obtain ⟨Ao, co, eo⟩ := Kd.R_slice HO.out
            subst eo
            have c4 := HS.out.c 4
            have c5 := HS.out.c 5
            have c6 := HS.out.c 6
            have c7 := HS.out.c 7
            simp at c4 c5 c6 c7
            by_cases hlen : l.length + 2 < 3518437208883
            · rw [if_pos hlen] at H
              have HLEN := Aside0.mk hlen
              clear hlen
              by_cases hln : 0 ≤ ln'
              · have hln1 : decide (0 ≤ ln') = true := decide_eq_true hln
                have hln2 : decide (ln' ≥ 0) = true := decide_eq_true hln
                by_cases hll : 0 < l.length
                · have hll1 : decide (0 < l.length) = true := decide_eq_true hll
                  have hll2 : decide (0 < (l.length : Int)) = true := decide_eq_true (by omega)
                  rw [if_pos ⟨hln, hll⟩] at H
                  have H' := Aside0.mk H
                  clear H HR hln hll
                  go_wp2_with (first | ((with_reducible refine gate_builtin (b := .append) (xs := #[.tmp 25, .tmp 31]) rfl ?_); (try (refine gate_guard (by rfl) ?_; dsimp only)); at_builtin; refine Kd.R_append k31 (w0 := w) w.heap.size rfl (.tmp 25) (.tmp 31) 23 31 (.agg #[(.int .i64 0), (.string ⟨#[]⟩), (.int .i64 0), (.int .i64 0)]) 40 rfl Tryd.underlying23 token_All.info rfl (by decide) (by omega) (.slice Ao l.length co) (l) (⟨5, (⟨#[10]⟩ : ByteArray), 0, ln'⟩ : S31) [.int .i64 5, .string (⟨#[10]⟩ : ByteArray), .int .i64 0, .int .i64 ln'] (fun k_ => k_ ≠ g) (fun _ => False) rfl (by first | (go_simp; done) | (go_simp; rfl)) ?aP (fun _ hk => hk.elim) ?aF ?aO ?aB ?aS ?aL ?_; (case aP => exact k31_mkM _ _ _ (⟨5, (⟨#[10]⟩ : ByteArray), 0, ln'⟩ : S31)); (case aB => exact HB.out); (case aF => exact IsS36.fresh HI.out); (case aO => exact HO.out); (case aS => exact below_size HB.out); (case aL => have := HLEN.out; omega); intro v1 w3 ho hb hg hat; have n0_ := Aside0.mk (IsS36.grown HI.out hg (fun e => HO.out.1 g e.symm rfl)); clear HI HB HO HS; have HI := n0_; have HB := Aside0.mk hb; have HO := Aside0.mk ho; clear n0_ ho hb hg hat; have HS := Aside0.mk (show Sx w w3 w3 g s' at' fr' ln' kd' ts' tn' tp' er' from ⟨HI.out, HB.out, KeepBut.refl _ _ _⟩); clear c3 f3 c2' c8 c4 c5 c6 c7; have c3 := HS.out.c 3; have f3 := HS.out.f 3; have c4 := HS.out.c 4; have c5 := HS.out.c 5; have c6 := HS.out.c 6; have c7 := HS.out.c 7; have c2' := c3; have c8 := c3; simp at c3 c4 c5 c6 c7) | ((with_reducible refine gate_builtin (b := .append) (xs := #[.tmp 36, .tmp 41]) rfl ?_); (try (refine gate_guard (by rfl) ?_; dsimp only)); at_builtin; refine Kd.R_append k31 (w0 := w) w.heap.size rfl (.tmp 36) (.tmp 41) 23 31 (.agg #[(.int .i64 0), (.string ⟨#[]⟩), (.int .i64 0), (.int .i64 0)]) 40 rfl Tryd.underlying23 token_All.info rfl (by decide) (by omega) (v1) (l ++ [(⟨5, (⟨#[10]⟩ : ByteArray), 0, ln'⟩ : S31)]) (⟨kd', ts', tn', tp'⟩ : S31) [.int .i64 kd', .string ts', .int .i64 tn', .int .i64 tp'] (fun k_ => k_ ≠ g) (fun _ => False) rfl (by first | (go_simp; done) | (go_simp; rfl)) ?aP (fun _ hk => hk.elim) ?aF ?aO ?aB ?aS ?aL ?_; (case aP => exact k31_mkM _ _ _ (⟨kd', ts', tn', tp'⟩ : S31)); (case aB => exact below_set HB.out (IsS36.ge HI.out)); (case aF => exact IsS36.fresh (IsS36.set_3 HI.out (-1))); (case aO => exact Kd.R_far (p := ⟨g, 3, none⟩) HO.out (fun _ hk => hk) _); (case aS => exact below_size (below_set (j := 3) (v := .int .i64 (-1)) HB.out (IsS36.ge HI.out))); (case aL => have := HLEN.out; rw [List.length_append]; simp only [List.length_cons, List.length_nil]; omega); intro v1 w3 ho hb hg hat; have n0_ := Aside0.mk (IsS36.grown (IsS36.set_3 HI.out (-1)) hg (fun e => HO.out.1 g e.symm rfl)); clear HI HB HO HS; have HI := n0_; have HB := Aside0.mk hb; have HO := Aside0.mk ho; clear n0_ ho hb hg hat; have HS := Aside0.mk (show Sx w w3 w3 g s' at' fr' (-1) kd' ts' tn' tp' er' from ⟨HI.out, HB.out, KeepBut.refl _ _ _⟩); clear c3 f3 c2' c8 c4 c5 c6 c7; have c3 := HS.out.c 3; have f3 := HS.out.f 3; have c4 := HS.out.c 4; have c5 := HS.out.c 5; have c6 := HS.out.c 6; have c7 := HS.out.c 7; have c2' := c3; have c8 := c3; simp at c3 c4 c5 c6 c7))
                  go_roundg k1
                  case measure => omega
                  case rel => exact ⟨_, _, _, _, _, _, _, _, _, H', HI, HO, HB⟩
                · have hll1 : decide (0 < l.length) = false := decide_eq_false hll
                  have hll2 : decide (0 < (l.length : Int)) = false := decide_eq_false (by omega)
                  rw [if_neg (fun h => hll h.2)] at H
                  have H' := Aside0.mk H
                  clear H HR hln hll
                  go_wp2_with (first | ((with_reducible refine gate_builtin (b := .append) (xs := #[.tmp 36, .tmp 41]) rfl ?_); (try (refine gate_guard (by rfl) ?_; dsimp only)); at_builtin; refine Kd.R_append k31 (w0 := w) w.heap.size rfl (.tmp 36) (.tmp 41) 23 31 (.agg #[(.int .i64 0), (.string ⟨#[]⟩), (.int .i64 0), (.int .i64 0)]) 40 rfl Tryd.underlying23 token_All.info rfl (by decide) (by omega) (.slice Ao l.length co) (l) (⟨kd', ts', tn', tp'⟩ : S31) [.int .i64 kd', .string ts', .int .i64 tn', .int .i64 tp'] (fun k_ => k_ ≠ g) (fun _ => False) rfl (by first | (go_simp; done) | (go_simp; rfl)) ?aP (fun _ hk => hk.elim) ?aF ?aO ?aB ?aS ?aL ?_; (case aP => exact k31_mkM _ _ _ (⟨kd', ts', tn', tp'⟩ : S31)); (case aB => exact below_set HB.out (IsS36.ge HI.out)); (case aF => exact IsS36.fresh (IsS36.set_3 HI.out (-1))); (case aO => exact Kd.R_far (p := ⟨g, 3, none⟩) HO.out (fun _ hk => hk) _); (case aS => exact below_size (below_set (j := 3) (v := .int .i64 (-1)) HB.out (IsS36.ge HI.out))); (case aL => have := HLEN.out; omega); intro v1 w3 ho hb hg hat; have n0_ := Aside0.mk (IsS36.grown (IsS36.set_3 HI.out (-1)) hg (fun e => HO.out.1 g e.symm rfl)); clear HI HB HO HS; have HI := n0_; have HB := Aside0.mk hb; have HO := Aside0.mk ho; clear n0_ ho hb hg hat; have HS := Aside0.mk (show Sx w w3 w3 g s' at' fr' (-1) kd' ts' tn' tp' er' from ⟨HI.out, HB.out, KeepBut.refl _ _ _⟩); clear c3 f3 c2' c8 c4 c5 c6 c7; have c3 := HS.out.c 3; have f3 := HS.out.f 3; have c4 := HS.out.c 4; have c5 := HS.out.c 5; have c6 := HS.out.c 6; have c7 := HS.out.c 7; have c2' := c3; have c8 := c3; simp at c3 c4 c5 c6 c7))
                  go_roundg k1
                  case measure => omega
                  case rel => exact ⟨_, _, _, _, _, _, _, _, _, H', HI, HO, HB⟩
              · have hln1 : decide (0 ≤ ln') = false := decide_eq_false hln
                have hln2 : decide (ln' ≥ 0) = false := decide_eq_false hln
                rw [if_neg (fun h => hln h.1)] at H
                have H' := Aside0.mk H
                clear H HR hln
                go_wp2_with (first | ((with_reducible refine gate_builtin (b := .append) (xs := #[.tmp 36, .tmp 41]) rfl ?_); (try (refine gate_guard (by rfl) ?_; dsimp only)); at_builtin; refine Kd.R_append k31 (w0 := w) w.heap.size rfl (.tmp 36) (.tmp 41) 23 31 (.agg #[(.int .i64 0), (.string ⟨#[]⟩), (.int .i64 0), (.int .i64 0)]) 40 rfl Tryd.underlying23 token_All.info rfl (by decide) (by omega) (.slice Ao l.length co) (l) (⟨kd', ts', tn', tp'⟩ : S31) [.int .i64 kd', .string ts', .int .i64 tn', .int .i64 tp'] (fun k_ => k_ ≠ g) (fun _ => False) rfl (by first | (go_simp; done) | (go_simp; rfl)) ?aP (fun _ hk => hk.elim) ?aF ?aO ?aB ?aS ?aL ?_; (case aP => exact k31_mkM _ _ _ (⟨kd', ts', tn', tp'⟩ : S31)); (case aB => exact below_set HB.out (IsS36.ge HI.out)); (case aF => exact IsS36.fresh (IsS36.set_3 HI.out (-1))); (case aO => exact Kd.R_far (p := ⟨g, 3, none⟩) HO.out (fun _ hk => hk) _); (case aS => exact below_size (below_set (j := 3) (v := .int .i64 (-1)) HB.out (IsS36.ge HI.out))); (case aL => have := HLEN.out; omega); intro v1 w3 ho hb hg hat; have n0_ := Aside0.mk (IsS36.grown (IsS36.set_3 HI.out (-1)) hg (fun e => HO.out.1 g e.symm rfl)); clear HI HB HO HS; have HI := n0_; have HB := Aside0.mk hb; have HO := Aside0.mk ho; clear n0_ ho hb hg hat; have HS := Aside0.mk (show Sx w w3 w3 g s' at' fr' (-1) kd' ts' tn' tp' er' from ⟨HI.out, HB.out, KeepBut.refl _ _ _⟩); clear c3 f3 c2' c8 c4 c5 c6 c7; have c3 := HS.out.c 3; have f3 := HS.out.f 3; have c4 := HS.out.c 4; have c5 := HS.out.c 5; have c6 := HS.out.c 6; have c7 := HS.out.c 7; have c2' := c3; have c8 := c3; simp at c3 c4 c5 c6 c7))
                go_roundg k1
                case measure => omega
                case rel => exact ⟨_, _, _, _, _, _, _, _, _, H', HI, HO, HB⟩
            · rw [if_neg hlen] at H
              exact absurd H (by simp)


/-! ### digit_Print: function 15 -/
def digit_Print.g : Nat → Int → List Int → List Int
  | 0, _, acc => acc
  | k + 1, m, acc => if m / 10 = 0 then (48 + m % 10) :: acc else digit_Print.g k (m / 10) ((48 + m % 10) :: acc)
def digit_Print.f (a0 : Int) : Option ByteArray := some (strOfNums (digit_Print.g 10 (mn (mx a0 0) 2147483647) []))
theorem digit_Print.slice (b k : Nat) (hk : k < 10) (W : World) :
    (Instr.sliceAt 47 (.pointer (some ⟨b, 0, none⟩)) (some (.int .i64 (k : Int))) none none).run Tryd.prog W = .ok (.slice (some ⟨b, k, none⟩) (10 - k) (10 - k)) W := by
  have hal : Tryd.prog.arrayLen 47 = 10 := by kernel_rfl
  have hae : Tryd.prog.elem 47 = 5 := by kernel_rfl
  have hau : Tryd.prog.underlying 47 = some (.array 10 5) := by kernel_rfl
  have hsz : (sizeOf 5).run Tryd.prog W = .ok 1 W := by kernel_rfl
  have h := run_sliceAt_array_l (P := Tryd.prog) W 47 ⟨b, 0, none⟩ (by rw [hal, hae]; exact hau) .i64 (k : Int) (by omega) (by rw [hal]; omega)
  rw [h, hae, hsz, hal]
  have h10 : ¬ 10 = k := by omega
  simp [slicedAt, Result.andThen, Addr.add, h10]
  omega
theorem digit_Print.conv (w : World) (k : Nat) (xs : List Int) (c : List Value) (hc : c = List.replicate k (.int .u8 0) ++ xs.map (Value.int .u8)) (hl : xs.length = 10 - k) :
    (convert 48 9 (.slice (some ⟨w.heap.size, k, none⟩) (10 - k) (10 - k))).run Tryd.prog (w.alloc (.cells c.toArray 47)) = .ok (.string (strOfNums xs)) (w.alloc (.cells c.toArray 47)) := by
  refine string_of_reads Tryd.underlying48 Tryd.underlying5 Tryd.underlying9 ⟨hl, by omega, fun _ => ⟨_, rfl, fun j hj => ?_⟩⟩
  have e : (⟨w.heap.size, k, none⟩ : Addr).add j = ⟨w.heap.size, k + j, none⟩ := by unfold Addr.add; by_cases h : j = 0 <;> simp [h]
  have hj' : j < xs.length := by omega
  rw [e, World.cell?_alloc_at (hn := rfl), hc]
  simp only [List.getElem?_toArray]
  rw [List.getElem?_append_right (by simp)]
  simp [List.getElem?_eq_getElem hj', List.getD_eq_getElem?_getD]
set_option maxHeartbeats 1000000 in
theorem digit_Print.calls (a0 : Int) (r : ByteArray) (w : World) (h : digit_Print.f a0 = some r) :
    Calls Tryd.prog 15 #[.int .i64 a0] w fun e w' => e = .returned (.string r) ∧ Below w.heap.size w w' := by
  obtain rfl := Option.some.inj h
  clear h
  obtain ⟨m1, hm1⟩ : ∃ n : Int, mx a0 0 = n := ⟨_, rfl⟩
  rw [hm1]
  obtain ⟨n, hn⟩ : ∃ n : Int, mn m1 2147483647 = n := ⟨_, rfl⟩
  rw [hn]
  have h0 : 0 ≤ n := by rw [← hn]; unfold mn; rw [← hm1]; unfold mx; split <;> split <;> omega
  have h1 : n ≤ 2147483647 := by rw [← hn]; unfold mn; split <;> omega
  unfold mx at hm1
  unfold mn at hn
  go_enter Tryd.func15, Tryd.ntmps15
  go_wp2
  clear hn hm1
  go_loopg [0, 4, 8] 10 (fun kq v0 v4 v8 w' => ∃ (m : Int) (acc : List Int) (c : List Value), v0 = .int .i64 m ∧ v4 = .int .i64 (kq : Int) ∧ v8 = .int .i64 (10 - (kq : Int)) ∧
      Aside0 (0 ≤ m ∧ m ≤ 2147483647 ∧ kq ≤ 10 ∧ m < 10 ^ kq ∧ (kq = 10 ∨ 0 < m) ∧ c = List.replicate kq (.int .u8 0) ++ acc.map (Value.int .u8) ∧ kq + acc.length = 10 ∧ digit_Print.g kq m acc = digit_Print.g 10 n []) ∧ w' = w.alloc (.cells c.toArray 47))
  case atStart => exact ⟨n, [], _, rfl, rfl, rfl, ⟨h0, h1, by omega, by omega, .inl rfl, rfl, rfl, rfl⟩, rfl⟩
  case round =>
    obtain ⟨m, acc, c, rfl, rfl, rfl, HA, rfl⟩ := hrel
    obtain ⟨b0, b1, b2, b3, b4, b5, b6, b7⟩ := HA.out
    cases gk with
    | zero => omega
    | succ k =>
      have hI : ((k + 1 : Nat) : Int) - 1 = (k : Int) := by omega
      have b2' : (k : Int) < 10 := by omega
      have b2'' : (0 : Int) ≤ (k : Int) := by omega
      have hck : c[k]? = some (.int .u8 0) := by rw [b5, List.getElem?_append_left (by simp)]; simp
      have hset : c.set k (.int .u8 (48 + m % 10)) = List.replicate k (.int .u8 0) ++ ((48 + m % 10) :: acc).map (Value.int .u8) := by
        rw [b5, List.replicate_succ', List.append_assoc, List.set_append_right _ _ (by simp)]
        simp
      have Hset := Aside0.mk hset
      clear hset b3 b4 b6 b7 b5
      by_cases hz : m / 10 = 0
      · have hz1 : (m / 10 == 0) = true := beq_iff_eq.2 hz
        clear hz
        have hsl := digit_Print.slice w.heap.size k (by omega)
        have hcv := digit_Print.conv w k ((48 + m % 10) :: acc) _ Hset.out (by have := HA.out.2.2.2.2.2.2.1; simp; omega)
        have hfin : digit_Print.g 10 n [] = (48 + m % 10) :: acc := by
          rw [← HA.out.2.2.2.2.2.2.2]; unfold digit_Print.g; rw [if_pos (beq_iff_eq.1 hz1)]
        have Hfin := Aside0.mk hfin
        clear hfin
        go_wp2
        go_ret
        exact ⟨by rw [Hfin.out]; rfl, (Below.refl _ _).alloc (Nat.le_refl _) _⟩
      · have hz1 : (m / 10 == 0) = false := beq_eq_false_iff_ne.2 hz
        clear hz
        go_wp2
        go_roundg k
        case measure => omega
        case rel =>
          refine ⟨m / 10, (48 + m % 10) :: acc, _, rfl, rfl, by go_num, ⟨?_⟩, rfl⟩
          obtain ⟨b0, b1, b2, b3, b4, b5, b6, b7⟩ := HA.out
          have hz : m / 10 ≠ 0 := beq_eq_false_iff_ne.1 hz1
          refine ⟨by omega, by omega, by omega, ?_, .inr (by omega), Hset.out, by simp; omega, ?_⟩
          · have : (10 : Int) ^ (k + 1) = 10 ^ k * 10 := Int.pow_succ ..
            omega
          · rw [← b7]; conv => rhs; unfold digit_Print.g
            rw [if_neg hz]


/-! ### token_Text: function 11 -/
def token_Text.f (a0_0 : Int) (a0_1 : ByteArray) (a0_2 : Int) (a0_3 : Int) : Option (ByteArray) := if a0_0 = 4 then ((digit_Print.f a0_2).bind fun t103 => (some t103)) else (some a0_1)
set_option maxHeartbeats 8000000 in
set_option maxRecDepth 100000 in
theorem token_Text.calls (a0_0 : Int) (a0_1 : ByteArray) (a0_2 : Int) (a0_3 : Int) (r : ByteArray) (w : World) (h : token_Text.f a0_0 a0_1 a0_2 a0_3 = some r) :
    Calls Tryd.prog 11 #[.agg #[.int .i64 a0_0, .string a0_1, .int .i64 a0_2, .int .i64 a0_3]] w fun e w' => e = .returned (.string r) ∧ Below w.heap.size w w' := by
  have hu31 := Tryd.underlying31
  have HB := Aside0.mk (Below.refl w.heap.size w)
  have H : (if a0_0 = 4 then ((digit_Print.f a0_2).bind fun t103 => (some t103)) else (some a0_1)) = some r := h
  clear h
  by_cases c2 : a0_0 = 4
  · rw [if_pos c2] at H
    have c2b0 : (a0_0 == 4) = true := beq_iff_eq.mpr c2
    have c2b1 : (a0_0 != 4) = false := bne_eq_false_iff_eq.mpr c2
    clear c2
    replace H := Option.bind_eq_some_iff.mp H
    obtain ⟨t103, A30, H⟩ := H
    replace H : (some t103) = some r := H
    have A3 := Aside0.mk A30
    clear A30
    obtain rfl := Option.some.inj H
    go_enter Tryd.func11, Tryd.ntmps11
    go_wp2_with (first | ((with_reducible refine gate_dst (N := 1) rfl ?_); refine box_event ?hg (N := 1) ?hd (cs := #[.int .i64 a0_0, .string a0_1, .int .i64 a0_2, .int .i64 a0_3]) (t := 31) ?hr ?_; (case hd => rfl); (case hg => rfl); (case hr => first | (go_simp; done) | (go_simp; rfl)); intro gb102 hg w4 hbox hb; have n0_ := Aside0.mk (below_step (by repeat (first | (with_reducible first | exact HB.out | apply below_alloc | apply pw_below_drewN | apply below_drew1) | exact HB.out)) hb); have n1_ := Aside0.mk (hbox); have n2_ := Aside0.mk ((by rw [hg]; exact (below_size (by repeat (first | (with_reducible first | exact HB.out | apply below_alloc | apply pw_below_drewN | apply below_drew1) | exact HB.out))) : w.heap.size ≤ gb102)); have n3_ := Aside0.mk ((by rw [hg]; exact (below_size (by repeat (first | (with_reducible first | exact HB.out | apply below_alloc | apply pw_below_drewN | apply below_drew1) | exact HB.out))) : w.heap.size ≤ gb102)); clear HB; have HB := n0_; have BK102 := n1_; have GW102 := n2_; have GE102 := n3_; clear n0_ n1_ n2_ n3_; clear hb hbox hg; have hcz5_0 : w4.cell? ⟨gb102, 0, none⟩ = some (.int .i64 a0_0) := (blk_cell BK102.out 0).trans rfl; have hcz5_1 : w4.cell? ⟨gb102, 1, none⟩ = some (.string a0_1) := (blk_cell BK102.out 1).trans rfl; have hcz5_2 : w4.cell? ⟨gb102, 2, none⟩ = some (.int .i64 a0_2) := (blk_cell BK102.out 2).trans rfl; have hcz5_3 : w4.cell? ⟨gb102, 3, none⟩ = some (.int .i64 a0_3) := (blk_cell BK102.out 3).trans rfl; have hfz5_0 := blk_frozen BK102.out 0; have hfz5_1 := blk_frozen BK102.out 1; have hfz5_2 := blk_frozen BK102.out 2; have hfz5_3 := blk_frozen BK102.out 3) | ((with_reducible refine gate_callee (f := 15) rfl ?_); refine goesL_ (some 8) rfl rfl Tryd.func15 (by kernel_rfl) rfl #[.int .i64 a0_2] rfl (by (try simp only [List.map_toArray, List.map_cons, List.map_nil]); first | done | rfl | (simp only [List.length_drop, List.length_take]; rfl)) ?_; (with_reducible refine (digit_Print.calls a0_2 t103 _ A3.out).mono ?_); rintro e w6 ⟨rfl, hb⟩; refine ⟨_, rfl, ?_⟩; have n0_ := Aside0.mk (blk_below (g := gb102) (o := .cells #[.int .i64 a0_0, .string a0_1, .int .i64 a0_2, .int .i64 a0_3] 31 (0, 0)) (by (with_reducible repeat (first | refine blk_drewN ?_ _ | refine blk_drew ?_ | refine blk_alloc ?_ _)); exact BK102.out) hb); have n1_ := Aside0.mk (below_step (by repeat (first | (with_reducible first | exact HB.out | apply below_alloc | apply pw_below_drewN | apply below_drew1 | refine below_set ?_ GE102.out) | exact HB.out)) hb); clear BK102; clear HB; have BK102 := n0_; have HB := n1_; clear n0_ n1_; (try clear hb); (try clear hb2); (try clear hk); (try clear hi)))
    go_ret
    exact ⟨by first | rfl | (simp [errW_none, errW_some] <;> rfl) | (simp [*, errW_none, errW_some] <;> rfl), by repeat (first | (with_reducible first | exact HB.out | apply below_alloc | apply pw_below_drewN | apply below_drew1 | refine below_set ?_ GE102.out) | exact HB.out)⟩
  · rw [if_neg c2] at H
    have c2b0 : (a0_0 == 4) = false := beq_eq_false_iff_ne.mpr c2
    have c2b1 : (a0_0 != 4) = true := bne_iff_ne.mpr c2
    obtain rfl := Option.some.inj H
    go_enter Tryd.func11, Tryd.ntmps11
    go_wp2_with (first | ((with_reducible refine gate_dst (N := 1) rfl ?_); refine box_event ?hg (N := 1) ?hd (cs := #[.int .i64 a0_0, .string a0_1, .int .i64 a0_2, .int .i64 a0_3]) (t := 31) ?hr ?_; (case hd => rfl); (case hg => rfl); (case hr => first | (go_simp; done) | (go_simp; rfl)); intro gb102 hg w7 hbox hb; have n0_ := Aside0.mk (below_step (by repeat (first | (with_reducible first | exact HB.out | apply below_alloc | apply pw_below_drewN | apply below_drew1) | exact HB.out)) hb); have n1_ := Aside0.mk (hbox); have n2_ := Aside0.mk ((by rw [hg]; exact (below_size (by repeat (first | (with_reducible first | exact HB.out | apply below_alloc | apply pw_below_drewN | apply below_drew1) | exact HB.out))) : w.heap.size ≤ gb102)); have n3_ := Aside0.mk ((by rw [hg]; exact (below_size (by repeat (first | (with_reducible first | exact HB.out | apply below_alloc | apply pw_below_drewN | apply below_drew1) | exact HB.out))) : w.heap.size ≤ gb102)); clear HB; have HB := n0_; have BK102 := n1_; have GW102 := n2_; have GE102 := n3_; clear n0_ n1_ n2_ n3_; clear hb hbox hg; have hcz8_0 : w7.cell? ⟨gb102, 0, none⟩ = some (.int .i64 a0_0) := (blk_cell BK102.out 0).trans rfl; have hcz8_1 : w7.cell? ⟨gb102, 1, none⟩ = some (.string a0_1) := (blk_cell BK102.out 1).trans rfl; have hcz8_2 : w7.cell? ⟨gb102, 2, none⟩ = some (.int .i64 a0_2) := (blk_cell BK102.out 2).trans rfl; have hcz8_3 : w7.cell? ⟨gb102, 3, none⟩ = some (.int .i64 a0_3) := (blk_cell BK102.out 3).trans rfl; have hfz8_0 := blk_frozen BK102.out 0; have hfz8_1 := blk_frozen BK102.out 1; have hfz8_2 := blk_frozen BK102.out 2; have hfz8_3 := blk_frozen BK102.out 3))
    go_ret
    exact ⟨by first | rfl | (simp [errW_none, errW_some] <;> rfl) | (simp [*, errW_none, errW_some] <;> rfl), by repeat (first | (with_reducible first | exact HB.out | apply below_alloc | apply pw_below_drewN | apply below_drew1 | refine below_set ?_ GE102.out) | exact HB.out)⟩

/-! ### gramaryelaw28_works: function 10 -/
def gramaryelaw28_works.f  : Option (Bool) := (token_All.f (⟨#[120, 32, 58, 61, 32, 49]⟩ : ByteArray)).bind fun bt104 => (if bt104.2.2 = 0 then (if bt104.2.1 = 6 then (if (bt104.1.length : Int) = 3 then (if 1 < (bt104.1.length : Int) then (if ((rd_T31 bt104.1 1).f1).toList = ([58, 61] : List UInt8) then (if 2 < (bt104.1.length : Int) then (if ((rd_T31 bt104.1 2).f2) = 1 then ((token_Text.f ((rd_T31 bt104.1 2).f0) ((rd_T31 bt104.1 2).f1) ((rd_T31 bt104.1 2).f2) ((rd_T31 bt104.1 2).f3)).bind fun t112 => (some (t112.toList == ([49] : List UInt8)))) else (some false)) else (none)) else (some false)) else (none)) else (some false)) else (some false)) else (some false))
set_option maxHeartbeats 8000000 in
set_option maxRecDepth 100000 in
theorem gramaryelaw28_works.calls  (r : Bool) (w : World) (h : gramaryelaw28_works.f  = some r) (hGGResv : GResv w := by first | assumption | (unfold GResv at *; repeat (first | assumption | apply Holds.drewN | apply Holds.drew | apply Holds.alloc | exact Holds.drawn (by assumption) (by assumption) | exact Holds.aside (by assumption) (by assumption)))) :
    Calls Tryd.prog 10 #[] w fun e w' => e = .returned (.bool r) ∧ Below w.heap.size w w' := by
  have hu31 := Tryd.underlying31
  have HB := Aside0.mk (Below.refl w.heap.size w)
  have H : ((token_All.f (⟨#[120, 32, 58, 61, 32, 49]⟩ : ByteArray)).bind fun bt104 => (if bt104.2.2 = 0 then (if bt104.2.1 = 6 then (if (bt104.1.length : Int) = 3 then (if 1 < (bt104.1.length : Int) then (if ((rd_T31 bt104.1 1).f1).toList = ([58, 61] : List UInt8) then (if 2 < (bt104.1.length : Int) then (if ((rd_T31 bt104.1 2).f2) = 1 then ((token_Text.f ((rd_T31 bt104.1 2).f0) ((rd_T31 bt104.1 2).f1) ((rd_T31 bt104.1 2).f2) ((rd_T31 bt104.1 2).f3)).bind fun t112 => (some (t112.toList == ([49] : List UInt8)))) else (some false)) else (none)) else (some false)) else (none)) else (some false)) else (some false)) else (some false))) = some r := h
  clear h
  replace H := Option.bind_eq_some_iff.mp H
  obtain ⟨⟨t104, t105, t106⟩, A10, H⟩ := H
  replace H : (if t106 = 0 then (if t105 = 6 then (if (t104.length : Int) = 3 then (if 1 < (t104.length : Int) then (if ((rd_T31 t104 1).f1).toList = ([58, 61] : List UInt8) then (if 2 < (t104.length : Int) then (if ((rd_T31 t104 2).f2) = 1 then ((token_Text.f ((rd_T31 t104 2).f0) ((rd_T31 t104 2).f1) ((rd_T31 t104 2).f2) ((rd_T31 t104 2).f3)).bind fun t112 => (some (t112.toList == ([49] : List UInt8)))) else (some false)) else (none)) else (some false)) else (none)) else (some false)) else (some false)) else (some false)) = some r := H
  have A1 := Aside0.mk A10
  clear A10
  by_cases c2 : t106 = 0
  · rw [if_pos c2] at H
    have c2b0 : (t106 == 0) = true := beq_iff_eq.mpr c2
    have c2b1 : (t106 != 0) = false := bne_eq_false_iff_eq.mpr c2
    clear c2
    by_cases c3 : t105 = 6
    · rw [if_pos c3] at H
      have c3b0 : (t105 == 6) = true := beq_iff_eq.mpr c3
      have c3b1 : (t105 != 6) = false := bne_eq_false_iff_eq.mpr c3
      clear c3
      by_cases c4 : (t104.length : Int) = 3
      · rw [if_pos c4] at H
        have c4b0 : ((t104.length : Int) == 3) = true := beq_iff_eq.mpr c4
        have c4b1 : ((t104.length : Int) != 3) = false := bne_eq_false_iff_eq.mpr c4
        clear c4
        by_cases c5 : 1 < (t104.length : Int)
        · rw [if_pos c5] at H
          have c5b0 : decide (1 < (t104.length : Int)) = true := decide_eq_true c5
          have c5b1 : decide (1 < t104.length) = true := decide_eq_true (by omega)
          clear c5
          by_cases c6 : ((rd_T31 t104 1).f1).toList = ([58, 61] : List UInt8)
          · rw [if_pos c6] at H
            have c6b0 : (((rd_T31 t104 1).f1).toList == ([58, 61] : List UInt8)) = true := beq_iff_eq.mpr c6
            have c6b1 : (((rd_T31 t104 1).f1).toList != ([58, 61] : List UInt8)) = false := bne_eq_false_iff_eq.mpr c6
            clear c6
            by_cases c7 : 2 < (t104.length : Int)
            · rw [if_pos c7] at H
              have c7b0 : decide (2 < (t104.length : Int)) = true := decide_eq_true c7
              have c7b1 : decide (2 < t104.length) = true := decide_eq_true (by omega)
              clear c7
              by_cases c8 : ((rd_T31 t104 2).f2) = 1
              · rw [if_pos c8] at H
                have c8b0 : (((rd_T31 t104 2).f2) == 1) = true := beq_iff_eq.mpr c8
                have c8b1 : (((rd_T31 t104 2).f2) != 1) = false := bne_eq_false_iff_eq.mpr c8
                clear c8
                replace H := Option.bind_eq_some_iff.mp H
                obtain ⟨t112, A90, H⟩ := H
                replace H : (some (t112.toList == ([49] : List UInt8))) = some r := H
                have A9 := Aside0.mk A90
                clear A90
                obtain rfl := Option.some.inj H
                go_enter Tryd.func10, Tryd.ntmps10
                go_wp2_with (first | ((with_reducible refine gate_callee (f := 7) rfl ?_); refine goesL_ (some 5) rfl rfl Tryd.func7 (by kernel_rfl) rfl #[.string (⟨#[120, 32, 58, 61, 32, 49]⟩ : ByteArray)] rfl (by (try simp only [List.map_toArray, List.map_cons, List.map_nil]); first | done | rfl | (simp only [List.length_drop, List.length_take]; rfl)) ?_; (with_reducible refine (token_All.calls (⟨#[120, 32, 58, 61, 32, 49]⟩ : ByteArray) t104 t105 t106 _ A1.out).mono ?_); rintro e w10 ⟨v107, rfl, ho0, hb⟩; refine ⟨_, rfl, ?_⟩; have n0_ := Aside0.mk (Kd.R_lower ho0 (below_size (by repeat (first | (with_reducible first | exact HB.out | apply below_alloc | apply pw_below_drewN | apply below_drew1) | exact HB.out)))); have n1_ := Aside0.mk (below_step (by repeat (first | (with_reducible first | exact HB.out | apply below_alloc | apply pw_below_drewN | apply below_drew1) | exact HB.out)) hb); clear HB; have HO108 := n0_; have HB := n1_; clear n0_ n1_; (try clear hb); (try clear hb2); (try clear hk); (try clear hi); (try clear ho0); obtain ⟨Ao11, co11, eo11⟩ := Kd.R_slice HO108.out; subst eo11; have p109 : 0 ≤ (1 : Int) := (by omega); have q109 : 1 < (t104.length : Int) := of_decide_eq_true (by first | (with_reducible assumption) | assumption); obtain ⟨ad109, e109, hx109_0, hx109_1, hx109_2, hx109_3⟩ := at_T31 (Kd.R_reads' HO108.out).2.2 1 p109 q109; cases e109; (try simp only [show (1 : Int).toNat = 1 from rfl, Nat.reduceMul, Nat.reduceEqDiff, Go.Addr.add, ↓reduceIte] at hx109_0); (try simp only [show (1 : Int).toNat = 1 from rfl, Nat.reduceMul, Nat.reduceEqDiff, Go.Addr.add, ↓reduceIte] at hx109_1); (try simp only [show (1 : Int).toNat = 1 from rfl, Nat.reduceMul, Nat.reduceEqDiff, Go.Addr.add, ↓reduceIte] at hx109_2); (try simp only [show (1 : Int).toNat = 1 from rfl, Nat.reduceMul, Nat.reduceEqDiff, Go.Addr.add, ↓reduceIte] at hx109_3); have qi109 : (1 < t104.length) = True := eq_true (by omega); (try rw [show ((1 : Int)).toNat = 1 from rfl] at hx109_0); (try rw [show 1 * 4 = 4 from rfl] at hx109_0); (try rw [show ((1 : Int)).toNat = 1 from rfl] at hx109_1); (try rw [show 1 * 4 = 4 from rfl] at hx109_1); (try rw [show ((1 : Int)).toNat = 1 from rfl] at hx109_2); (try rw [show 1 * 4 = 4 from rfl] at hx109_2); (try rw [show ((1 : Int)).toNat = 1 from rfl] at hx109_3); (try rw [show 1 * 4 = 4 from rfl] at hx109_3); replace p109 := eq_true p109; replace q109 := eq_true q109; have p110 : 0 ≤ (2 : Int) := (by omega); have q110 : 2 < (t104.length : Int) := of_decide_eq_true (by first | (with_reducible assumption) | assumption); obtain ⟨ad110, e110, hx110_0, hx110_1, hx110_2, hx110_3⟩ := at_T31 (Kd.R_reads' HO108.out).2.2 2 p110 q110; obtain rfl : ad109 = ad110 := (by injection e110); (try simp only [show (2 : Int).toNat = 2 from rfl, Nat.reduceMul, Nat.reduceEqDiff, Go.Addr.add, ↓reduceIte] at hx110_0); (try simp only [show (2 : Int).toNat = 2 from rfl, Nat.reduceMul, Nat.reduceEqDiff, Go.Addr.add, ↓reduceIte] at hx110_1); (try simp only [show (2 : Int).toNat = 2 from rfl, Nat.reduceMul, Nat.reduceEqDiff, Go.Addr.add, ↓reduceIte] at hx110_2); (try simp only [show (2 : Int).toNat = 2 from rfl, Nat.reduceMul, Nat.reduceEqDiff, Go.Addr.add, ↓reduceIte] at hx110_3); have qi110 : (2 < t104.length) = True := eq_true (by omega); (try rw [show ((2 : Int)).toNat = 2 from rfl] at hx110_0); (try rw [show 2 * 4 = 8 from rfl] at hx110_0); (try rw [show ((2 : Int)).toNat = 2 from rfl] at hx110_1); (try rw [show 2 * 4 = 8 from rfl] at hx110_1); (try rw [show ((2 : Int)).toNat = 2 from rfl] at hx110_2); (try rw [show 2 * 4 = 8 from rfl] at hx110_2); (try rw [show ((2 : Int)).toNat = 2 from rfl] at hx110_3); (try rw [show 2 * 4 = 8 from rfl] at hx110_3); replace p110 := eq_true p110; replace q110 := eq_true q110; have p111 : 0 ≤ (2 : Int) := (by omega); have q111 : 2 < (t104.length : Int) := of_decide_eq_true (by first | (with_reducible assumption) | assumption); obtain ⟨ad111, e111, hx111_0, hx111_1, hx111_2, hx111_3⟩ := at_T31 (Kd.R_reads' HO108.out).2.2 2 p111 q111; obtain rfl : ad109 = ad111 := (by injection e111); (try simp only [show (2 : Int).toNat = 2 from rfl, Nat.reduceMul, Nat.reduceEqDiff, Go.Addr.add, ↓reduceIte] at hx111_0); (try simp only [show (2 : Int).toNat = 2 from rfl, Nat.reduceMul, Nat.reduceEqDiff, Go.Addr.add, ↓reduceIte] at hx111_1); (try simp only [show (2 : Int).toNat = 2 from rfl, Nat.reduceMul, Nat.reduceEqDiff, Go.Addr.add, ↓reduceIte] at hx111_2); (try simp only [show (2 : Int).toNat = 2 from rfl, Nat.reduceMul, Nat.reduceEqDiff, Go.Addr.add, ↓reduceIte] at hx111_3); have qi111 : (2 < t104.length) = True := eq_true (by omega); (try rw [show ((2 : Int)).toNat = 2 from rfl] at hx111_0); (try rw [show 2 * 4 = 8 from rfl] at hx111_0); (try rw [show ((2 : Int)).toNat = 2 from rfl] at hx111_1); (try rw [show 2 * 4 = 8 from rfl] at hx111_1); (try rw [show ((2 : Int)).toNat = 2 from rfl] at hx111_2); (try rw [show 2 * 4 = 8 from rfl] at hx111_2); (try rw [show ((2 : Int)).toNat = 2 from rfl] at hx111_3); (try rw [show 2 * 4 = 8 from rfl] at hx111_3); replace p111 := eq_true p111; replace q111 := eq_true q111) | (go_at_call 11; (with_reducible refine (token_Text.calls ((rd_T31 t104 2).f0) ((rd_T31 t104 2).f1) ((rd_T31 t104 2).f2) ((rd_T31 t104 2).f3) t112 _ A9.out).mono ?_); rintro e w12 ⟨rfl, hb⟩; have n0_ := Aside0.mk (Kd.R_below (by (with_reducible repeat (first | apply Kd.R_alloc | apply Kd.R_drewN | apply Kd.R_drew)); exact HO108.out) hb); have n1_ := Aside0.mk (below_step (by repeat (first | (with_reducible first | exact HB.out | apply below_alloc | apply pw_below_drewN | apply below_drew1) | exact HB.out)) hb); clear HO108; clear HB; have HO108 := n0_; have HB := n1_; clear n0_ n1_; (try clear hb); (try clear hb2); (try clear hk); (try clear hi)))
                go_ret
                exact ⟨by first | rfl | (simp [errW_none, errW_some] <;> rfl) | (simp [*, errW_none, errW_some] <;> rfl), by repeat (first | (with_reducible first | exact HB.out | apply below_alloc | apply pw_below_drewN | apply below_drew1) | exact HB.out)⟩
              · rw [if_neg c8] at H
                have c8b0 : (((rd_T31 t104 2).f2) == 1) = false := beq_eq_false_iff_ne.mpr c8
                have c8b1 : (((rd_T31 t104 2).f2) != 1) = true := bne_iff_ne.mpr c8
                obtain rfl := Option.some.inj H
                go_enter Tryd.func10, Tryd.ntmps10
                go_wp2_with (first | ((with_reducible refine gate_callee (f := 7) rfl ?_); refine goesL_ (some 5) rfl rfl Tryd.func7 (by kernel_rfl) rfl #[.string (⟨#[120, 32, 58, 61, 32, 49]⟩ : ByteArray)] rfl (by (try simp only [List.map_toArray, List.map_cons, List.map_nil]); first | done | rfl | (simp only [List.length_drop, List.length_take]; rfl)) ?_; (with_reducible refine (token_All.calls (⟨#[120, 32, 58, 61, 32, 49]⟩ : ByteArray) t104 t105 t106 _ A1.out).mono ?_); rintro e w13 ⟨v107, rfl, ho0, hb⟩; refine ⟨_, rfl, ?_⟩; have n0_ := Aside0.mk (Kd.R_lower ho0 (below_size (by repeat (first | (with_reducible first | exact HB.out | apply below_alloc | apply pw_below_drewN | apply below_drew1) | exact HB.out)))); have n1_ := Aside0.mk (below_step (by repeat (first | (with_reducible first | exact HB.out | apply below_alloc | apply pw_below_drewN | apply below_drew1) | exact HB.out)) hb); clear HB; have HO108 := n0_; have HB := n1_; clear n0_ n1_; (try clear hb); (try clear hb2); (try clear hk); (try clear hi); (try clear ho0); obtain ⟨Ao14, co14, eo14⟩ := Kd.R_slice HO108.out; subst eo14; have p109 : 0 ≤ (1 : Int) := (by omega); have q109 : 1 < (t104.length : Int) := of_decide_eq_true (by first | (with_reducible assumption) | assumption); obtain ⟨ad109, e109, hx109_0, hx109_1, hx109_2, hx109_3⟩ := at_T31 (Kd.R_reads' HO108.out).2.2 1 p109 q109; cases e109; (try simp only [show (1 : Int).toNat = 1 from rfl, Nat.reduceMul, Nat.reduceEqDiff, Go.Addr.add, ↓reduceIte] at hx109_0); (try simp only [show (1 : Int).toNat = 1 from rfl, Nat.reduceMul, Nat.reduceEqDiff, Go.Addr.add, ↓reduceIte] at hx109_1); (try simp only [show (1 : Int).toNat = 1 from rfl, Nat.reduceMul, Nat.reduceEqDiff, Go.Addr.add, ↓reduceIte] at hx109_2); (try simp only [show (1 : Int).toNat = 1 from rfl, Nat.reduceMul, Nat.reduceEqDiff, Go.Addr.add, ↓reduceIte] at hx109_3); have qi109 : (1 < t104.length) = True := eq_true (by omega); (try rw [show ((1 : Int)).toNat = 1 from rfl] at hx109_0); (try rw [show 1 * 4 = 4 from rfl] at hx109_0); (try rw [show ((1 : Int)).toNat = 1 from rfl] at hx109_1); (try rw [show 1 * 4 = 4 from rfl] at hx109_1); (try rw [show ((1 : Int)).toNat = 1 from rfl] at hx109_2); (try rw [show 1 * 4 = 4 from rfl] at hx109_2); (try rw [show ((1 : Int)).toNat = 1 from rfl] at hx109_3); (try rw [show 1 * 4 = 4 from rfl] at hx109_3); replace p109 := eq_true p109; replace q109 := eq_true q109; have p110 : 0 ≤ (2 : Int) := (by omega); have q110 : 2 < (t104.length : Int) := of_decide_eq_true (by first | (with_reducible assumption) | assumption); obtain ⟨ad110, e110, hx110_0, hx110_1, hx110_2, hx110_3⟩ := at_T31 (Kd.R_reads' HO108.out).2.2 2 p110 q110; obtain rfl : ad109 = ad110 := (by injection e110); (try simp only [show (2 : Int).toNat = 2 from rfl, Nat.reduceMul, Nat.reduceEqDiff, Go.Addr.add, ↓reduceIte] at hx110_0); (try simp only [show (2 : Int).toNat = 2 from rfl, Nat.reduceMul, Nat.reduceEqDiff, Go.Addr.add, ↓reduceIte] at hx110_1); (try simp only [show (2 : Int).toNat = 2 from rfl, Nat.reduceMul, Nat.reduceEqDiff, Go.Addr.add, ↓reduceIte] at hx110_2); (try simp only [show (2 : Int).toNat = 2 from rfl, Nat.reduceMul, Nat.reduceEqDiff, Go.Addr.add, ↓reduceIte] at hx110_3); have qi110 : (2 < t104.length) = True := eq_true (by omega); (try rw [show ((2 : Int)).toNat = 2 from rfl] at hx110_0); (try rw [show 2 * 4 = 8 from rfl] at hx110_0); (try rw [show ((2 : Int)).toNat = 2 from rfl] at hx110_1); (try rw [show 2 * 4 = 8 from rfl] at hx110_1); (try rw [show ((2 : Int)).toNat = 2 from rfl] at hx110_2); (try rw [show 2 * 4 = 8 from rfl] at hx110_2); (try rw [show ((2 : Int)).toNat = 2 from rfl] at hx110_3); (try rw [show 2 * 4 = 8 from rfl] at hx110_3); replace p110 := eq_true p110; replace q110 := eq_true q110))
                go_ret
                exact ⟨by first | rfl | (simp [errW_none, errW_some] <;> rfl) | (simp [*, errW_none, errW_some] <;> rfl), by repeat (first | (with_reducible first | exact HB.out | apply below_alloc | apply pw_below_drewN | apply below_drew1) | exact HB.out)⟩
            · rw [if_neg c7] at H
              exact absurd H (by simp)
          · rw [if_neg c6] at H
            have c6b0 : (((rd_T31 t104 1).f1).toList == ([58, 61] : List UInt8)) = false := beq_eq_false_iff_ne.mpr c6
            have c6b1 : (((rd_T31 t104 1).f1).toList != ([58, 61] : List UInt8)) = true := bne_iff_ne.mpr c6
            obtain rfl := Option.some.inj H
            go_enter Tryd.func10, Tryd.ntmps10
            go_wp2_with (first | ((with_reducible refine gate_callee (f := 7) rfl ?_); refine goesL_ (some 5) rfl rfl Tryd.func7 (by kernel_rfl) rfl #[.string (⟨#[120, 32, 58, 61, 32, 49]⟩ : ByteArray)] rfl (by (try simp only [List.map_toArray, List.map_cons, List.map_nil]); first | done | rfl | (simp only [List.length_drop, List.length_take]; rfl)) ?_; (with_reducible refine (token_All.calls (⟨#[120, 32, 58, 61, 32, 49]⟩ : ByteArray) t104 t105 t106 _ A1.out).mono ?_); rintro e w15 ⟨v107, rfl, ho0, hb⟩; refine ⟨_, rfl, ?_⟩; have n0_ := Aside0.mk (Kd.R_lower ho0 (below_size (by repeat (first | (with_reducible first | exact HB.out | apply below_alloc | apply pw_below_drewN | apply below_drew1) | exact HB.out)))); have n1_ := Aside0.mk (below_step (by repeat (first | (with_reducible first | exact HB.out | apply below_alloc | apply pw_below_drewN | apply below_drew1) | exact HB.out)) hb); clear HB; have HO108 := n0_; have HB := n1_; clear n0_ n1_; (try clear hb); (try clear hb2); (try clear hk); (try clear hi); (try clear ho0); obtain ⟨Ao16, co16, eo16⟩ := Kd.R_slice HO108.out; subst eo16; have p109 : 0 ≤ (1 : Int) := (by omega); have q109 : 1 < (t104.length : Int) := of_decide_eq_true (by first | (with_reducible assumption) | assumption); obtain ⟨ad109, e109, hx109_0, hx109_1, hx109_2, hx109_3⟩ := at_T31 (Kd.R_reads' HO108.out).2.2 1 p109 q109; cases e109; (try simp only [show (1 : Int).toNat = 1 from rfl, Nat.reduceMul, Nat.reduceEqDiff, Go.Addr.add, ↓reduceIte] at hx109_0); (try simp only [show (1 : Int).toNat = 1 from rfl, Nat.reduceMul, Nat.reduceEqDiff, Go.Addr.add, ↓reduceIte] at hx109_1); (try simp only [show (1 : Int).toNat = 1 from rfl, Nat.reduceMul, Nat.reduceEqDiff, Go.Addr.add, ↓reduceIte] at hx109_2); (try simp only [show (1 : Int).toNat = 1 from rfl, Nat.reduceMul, Nat.reduceEqDiff, Go.Addr.add, ↓reduceIte] at hx109_3); have qi109 : (1 < t104.length) = True := eq_true (by omega); (try rw [show ((1 : Int)).toNat = 1 from rfl] at hx109_0); (try rw [show 1 * 4 = 4 from rfl] at hx109_0); (try rw [show ((1 : Int)).toNat = 1 from rfl] at hx109_1); (try rw [show 1 * 4 = 4 from rfl] at hx109_1); (try rw [show ((1 : Int)).toNat = 1 from rfl] at hx109_2); (try rw [show 1 * 4 = 4 from rfl] at hx109_2); (try rw [show ((1 : Int)).toNat = 1 from rfl] at hx109_3); (try rw [show 1 * 4 = 4 from rfl] at hx109_3); replace p109 := eq_true p109; replace q109 := eq_true q109))
            go_ret
            exact ⟨by first | rfl | (simp [errW_none, errW_some] <;> rfl) | (simp [*, errW_none, errW_some] <;> rfl), by repeat (first | (with_reducible first | exact HB.out | apply below_alloc | apply pw_below_drewN | apply below_drew1) | exact HB.out)⟩
        · rw [if_neg c5] at H
          exact absurd H (by simp)
      · rw [if_neg c4] at H
        have c4b0 : ((t104.length : Int) == 3) = false := beq_eq_false_iff_ne.mpr c4
        have c4b1 : ((t104.length : Int) != 3) = true := bne_iff_ne.mpr c4
        obtain rfl := Option.some.inj H
        go_enter Tryd.func10, Tryd.ntmps10
        go_wp2_with (first | ((with_reducible refine gate_callee (f := 7) rfl ?_); refine goesL_ (some 5) rfl rfl Tryd.func7 (by kernel_rfl) rfl #[.string (⟨#[120, 32, 58, 61, 32, 49]⟩ : ByteArray)] rfl (by (try simp only [List.map_toArray, List.map_cons, List.map_nil]); first | done | rfl | (simp only [List.length_drop, List.length_take]; rfl)) ?_; (with_reducible refine (token_All.calls (⟨#[120, 32, 58, 61, 32, 49]⟩ : ByteArray) t104 t105 t106 _ A1.out).mono ?_); rintro e w17 ⟨v107, rfl, ho0, hb⟩; refine ⟨_, rfl, ?_⟩; have n0_ := Aside0.mk (Kd.R_lower ho0 (below_size (by repeat (first | (with_reducible first | exact HB.out | apply below_alloc | apply pw_below_drewN | apply below_drew1) | exact HB.out)))); have n1_ := Aside0.mk (below_step (by repeat (first | (with_reducible first | exact HB.out | apply below_alloc | apply pw_below_drewN | apply below_drew1) | exact HB.out)) hb); clear HB; have HO108 := n0_; have HB := n1_; clear n0_ n1_; (try clear hb); (try clear hb2); (try clear hk); (try clear hi); (try clear ho0); obtain ⟨Ao18, co18, eo18⟩ := Kd.R_slice HO108.out; subst eo18))
        go_ret
        exact ⟨by first | rfl | (simp [errW_none, errW_some] <;> rfl) | (simp [*, errW_none, errW_some] <;> rfl), by repeat (first | (with_reducible first | exact HB.out | apply below_alloc | apply pw_below_drewN | apply below_drew1) | exact HB.out)⟩
    · rw [if_neg c3] at H
      have c3b0 : (t105 == 6) = false := beq_eq_false_iff_ne.mpr c3
      have c3b1 : (t105 != 6) = true := bne_iff_ne.mpr c3
      obtain rfl := Option.some.inj H
      go_enter Tryd.func10, Tryd.ntmps10
      go_wp2_with (first | ((with_reducible refine gate_callee (f := 7) rfl ?_); refine goesL_ (some 5) rfl rfl Tryd.func7 (by kernel_rfl) rfl #[.string (⟨#[120, 32, 58, 61, 32, 49]⟩ : ByteArray)] rfl (by (try simp only [List.map_toArray, List.map_cons, List.map_nil]); first | done | rfl | (simp only [List.length_drop, List.length_take]; rfl)) ?_; (with_reducible refine (token_All.calls (⟨#[120, 32, 58, 61, 32, 49]⟩ : ByteArray) t104 t105 t106 _ A1.out).mono ?_); rintro e w19 ⟨v107, rfl, ho0, hb⟩; refine ⟨_, rfl, ?_⟩; have n0_ := Aside0.mk (Kd.R_lower ho0 (below_size (by repeat (first | (with_reducible first | exact HB.out | apply below_alloc | apply pw_below_drewN | apply below_drew1) | exact HB.out)))); have n1_ := Aside0.mk (below_step (by repeat (first | (with_reducible first | exact HB.out | apply below_alloc | apply pw_below_drewN | apply below_drew1) | exact HB.out)) hb); clear HB; have HO108 := n0_; have HB := n1_; clear n0_ n1_; (try clear hb); (try clear hb2); (try clear hk); (try clear hi); (try clear ho0)))
      go_ret
      exact ⟨by first | rfl | (simp [errW_none, errW_some] <;> rfl) | (simp [*, errW_none, errW_some] <;> rfl), by repeat (first | (with_reducible first | exact HB.out | apply below_alloc | apply pw_below_drewN | apply below_drew1) | exact HB.out)⟩
  · rw [if_neg c2] at H
    have c2b0 : (t106 == 0) = false := beq_eq_false_iff_ne.mpr c2
    have c2b1 : (t106 != 0) = true := bne_iff_ne.mpr c2
    obtain rfl := Option.some.inj H
    go_enter Tryd.func10, Tryd.ntmps10
    go_wp2_with (first | ((with_reducible refine gate_callee (f := 7) rfl ?_); refine goesL_ (some 5) rfl rfl Tryd.func7 (by kernel_rfl) rfl #[.string (⟨#[120, 32, 58, 61, 32, 49]⟩ : ByteArray)] rfl (by (try simp only [List.map_toArray, List.map_cons, List.map_nil]); first | done | rfl | (simp only [List.length_drop, List.length_take]; rfl)) ?_; (with_reducible refine (token_All.calls (⟨#[120, 32, 58, 61, 32, 49]⟩ : ByteArray) t104 t105 t106 _ A1.out).mono ?_); rintro e w20 ⟨v107, rfl, ho0, hb⟩; refine ⟨_, rfl, ?_⟩; have n0_ := Aside0.mk (Kd.R_lower ho0 (below_size (by repeat (first | (with_reducible first | exact HB.out | apply below_alloc | apply pw_below_drewN | apply below_drew1) | exact HB.out)))); have n1_ := Aside0.mk (below_step (by repeat (first | (with_reducible first | exact HB.out | apply below_alloc | apply pw_below_drewN | apply below_drew1) | exact HB.out)) hb); clear HB; have HO108 := n0_; have HB := n1_; clear n0_ n1_; (try clear hb); (try clear hb2); (try clear hk); (try clear hi); (try clear ho0)))
    go_ret
    exact ⟨by first | rfl | (simp [errW_none, errW_some] <;> rfl) | (simp [*, errW_none, errW_some] <;> rfl), by repeat (first | (with_reducible first | exact HB.out | apply below_alloc | apply pw_below_drewN | apply below_drew1) | exact HB.out)⟩

end Go.Proofs.YtmpdilifoblnaaaDoor.MTokenAgain
