-- A text of this claim (written by this repo's wip/myprint.py).
import Derived.Test.YthpiofcjckmifaaDoorMWordRulesx0
import Derived.Test.YthpiofcjckmifaaDoorMWordRulesx2
namespace Go.Proofs.YthpiofcjckmifaaDoor.MWordRules
open Go.RowKit Go.Proofs.YthpiofcjckmifaaDoorW.PrintWords Go.Proofs.YthpiofcjckmifaaDoorW.PrintLast Go.Proofs.YthpiofcjckmifaaDoorW.PrintMore Go.Proofs.YthpiofcjckmifaaDoor.Fun Go.Proofs.YthpiofcjckmifaaDoor.Glob
attribute [local go_sem] max2_int min2_int max_two min_two max_three min_three max_four min_four   -- for this text's walks alone
set_option linter.unusedVariables false
set_option linter.unusedSimpArgs false

/-! ### gramaryeref27_Of: function 18 -/
def gramaryeref27_Of.f (k : Nat) (a0 : ByteArray) : Option (ByteArray) := (gramaryeref02_Name.f k a0).bind fun t126 => (if t126 = true then (if 5 + a0.size ≤ 9223372036854775807 then (some ((⟨#[114, 117, 108, 101, 95]⟩ : ByteArray) ++ a0)) else (none)) else (some (⟨#[]⟩ : ByteArray)))
theorem gramaryeref27_Of.mono : ∀ a0 k, LeO (gramaryeref27_Of.f k a0) (gramaryeref27_Of.f (k + 1) a0) := by
  intro a0 k
  unfold gramaryeref27_Of.f
  repeat' first
      | (with_reducible exact gramaryeref02_Name.mono _ _)
      | (with_reducible exact LeO.refl _)
      | (with_reducible exact LeO.none _)
      | (with_reducible refine LeO.ite ?_ ?_)
      | (with_reducible refine LeO.bind ?_ (fun _ => ?_))
      | exact gramaryeref02_Name.mono _ _
      | exact LeO.none _
      | refine LeO.ite ?_ ?_
      | refine LeO.bind ?_ (fun _ => ?_)
set_option maxHeartbeats 8000000 in
set_option maxRecDepth 100000 in
theorem gramaryeref27_Of.calls (k : Nat) (a0 : ByteArray) (r : ByteArray) (w : World) (h : gramaryeref27_Of.f k a0 = some r) :
    Calls Tryd.prog 18 #[.string a0] w fun e w' => e = .returned (.string r) ∧ Drawn0 w w' := by
  have H : ((gramaryeref02_Name.f k a0).bind fun t126 => (if t126 = true then (if 5 + a0.size ≤ 9223372036854775807 then (some ((⟨#[114, 117, 108, 101, 95]⟩ : ByteArray) ++ a0)) else (none)) else (some (⟨#[]⟩ : ByteArray)))) = some r := h
  clear h
  replace H := Option.bind_eq_some_iff.mp H
  obtain ⟨t126, A20, H⟩ := H
  replace H : (if t126 = true then (if 5 + a0.size ≤ 9223372036854775807 then (some ((⟨#[114, 117, 108, 101, 95]⟩ : ByteArray) ++ a0)) else (none)) else (some (⟨#[]⟩ : ByteArray))) = some r := H
  have A2 := Aside0.mk A20
  clear A20
  by_cases c3 : t126 = true
  · subst c3
    have H1 : (if 5 + a0.size ≤ 9223372036854775807 then (some ((⟨#[114, 117, 108, 101, 95]⟩ : ByteArray) ++ a0)) else (none)) = some r := by rw [if_pos rfl] at H; exact H
    clear H
    have H := H1
    clear H1
    by_cases c4 : 5 + a0.size ≤ 9223372036854775807
    · rw [if_pos c4] at H
      have c4b0 := eq_true c4
      have c4b1 : decide (5 + a0.size ≤ 9223372036854775807) = true := decide_eq_true c4
      try have c4b2 : (9223372036854775807 < 5 + a0.size) = False := eq_false (Nat.not_lt.2 c4)
      obtain rfl := Option.some.inj H
      go_enter Tryd.func18, Tryd.ntmps18
      go_wp2_with (first | ((with_reducible refine gate_callee (f := 19) rfl ?_); refine goesL_ (some 4) rfl rfl Tryd.func19 (by kernel_rfl) rfl #[.string a0] rfl (by (try simp only [List.map_toArray, List.map_cons, List.map_nil]); first | done | rfl | (simp only [List.length_drop, List.length_take]; rfl)) ?_; (with_reducible refine (gramaryeref02_Name.calls k a0 true _ A2.out).mono ?_); rintro e w' ⟨rfl, ⟨nd, rfl⟩⟩; refine ⟨_, rfl, ?_⟩))
      go_ret
      exact ⟨by first | rfl | (simp; done) | (simp [*]; done), by repeat (first | exact Drawn0.refl _ | apply Drawn0.step)⟩
    · rw [if_neg c4] at H
      exact absurd H (by simp)
  · replace c3 := Bool.eq_false_iff.mpr c3
    subst c3
    have H1 : (some (⟨#[]⟩ : ByteArray)) = some r := by rw [if_neg (show ¬ (false = true) by decide)] at H; exact H
    clear H
    have H := H1
    clear H1
    obtain rfl := Option.some.inj H
    go_enter Tryd.func18, Tryd.ntmps18
    go_wp2_with (first | ((with_reducible refine gate_callee (f := 19) rfl ?_); refine goesL_ (some 4) rfl rfl Tryd.func19 (by kernel_rfl) rfl #[.string a0] rfl (by (try simp only [List.map_toArray, List.map_cons, List.map_nil]); first | done | rfl | (simp only [List.length_drop, List.length_take]; rfl)) ?_; (with_reducible refine (gramaryeref02_Name.calls k a0 false _ A2.out).mono ?_); rintro e w' ⟨rfl, ⟨nd, rfl⟩⟩; refine ⟨_, rfl, ?_⟩))
    go_ret
    exact ⟨by first | rfl | (simp; done) | (simp [*]; done), by repeat (first | exact Drawn0.refl _ | apply Drawn0.step)⟩

/-! ### gramaryelaw27_WordRules: function 4 -/
def gramaryelaw27_WordRules.f (k : Nat) (a0 : ByteArray) : Option (Bool) := (word_Rule.f a0).bind fun bt127 => ((gramaryeref27_Rule.f k a0).bind fun bt129 => ((word_Of.f a0).bind fun t131 => ((gramaryeref27_Of.f k a0).bind fun t132 => (if t131.toList = t132.toList then (if bt127.1.toList = bt129.1.toList then (if (bt127.2 == bt129.2) = true then ((gramaryelaw27_works.f k).bind fun t133 => (some t133)) else (some false)) else (some false)) else (some false)))))
theorem gramaryelaw27_WordRules.mono : ∀ a0 k, LeO (gramaryelaw27_WordRules.f k a0) (gramaryelaw27_WordRules.f (k + 1) a0) := by
  intro a0 k
  unfold gramaryelaw27_WordRules.f
  repeat' first
      | (with_reducible exact gramaryelaw27_works.mono _)
      | (with_reducible exact gramaryeref27_Of.mono _ _)
      | (with_reducible exact gramaryeref27_Rule.mono _ _)
      | (with_reducible exact LeO.refl _)
      | (with_reducible exact LeO.none _)
      | (with_reducible refine LeO.ite ?_ ?_)
      | (with_reducible refine LeO.bind ?_ (fun _ => ?_))
      | exact gramaryelaw27_works.mono _
      | exact gramaryeref27_Of.mono _ _
      | exact gramaryeref27_Rule.mono _ _
      | exact LeO.none _
      | refine LeO.ite ?_ ?_
      | refine LeO.bind ?_ (fun _ => ?_)
set_option maxHeartbeats 8000000 in
set_option maxRecDepth 100000 in
theorem gramaryelaw27_WordRules.calls (k : Nat) (a0 : ByteArray) (r : Bool) (w : World) (h : gramaryelaw27_WordRules.f k a0 = some r) (hGGKey : GKey w := by first | assumption | (unfold GKey at *; repeat (first | assumption | apply Holds.drewN | apply Holds.drew | apply Holds.alloc | exact Holds.drawn (by assumption) (by assumption) | exact Holds.aside (by assumption) (by assumption)))) (hGGResv : GResv w := by first | assumption | (unfold GResv at *; repeat (first | assumption | apply Holds.drewN | apply Holds.drew | apply Holds.alloc | exact Holds.drawn (by assumption) (by assumption) | exact Holds.aside (by assumption) (by assumption)))) :
    Calls Tryd.prog 4 #[.string a0] w fun e w' => e = .returned (.bool r) ∧ Drawn0 w w' := by
  have H : ((word_Rule.f a0).bind fun bt127 => ((gramaryeref27_Rule.f k a0).bind fun bt129 => ((word_Of.f a0).bind fun t131 => ((gramaryeref27_Of.f k a0).bind fun t132 => (if t131.toList = t132.toList then (if bt127.1.toList = bt129.1.toList then (if (bt127.2 == bt129.2) = true then ((gramaryelaw27_works.f k).bind fun t133 => (some t133)) else (some false)) else (some false)) else (some false)))))) = some r := h
  clear h
  replace H := Option.bind_eq_some_iff.mp H
  obtain ⟨⟨t127, t128⟩, A20, H⟩ := H
  replace H : ((gramaryeref27_Rule.f k a0).bind fun bt129 => ((word_Of.f a0).bind fun t131 => ((gramaryeref27_Of.f k a0).bind fun t132 => (if t131.toList = t132.toList then (if t127.toList = bt129.1.toList then (if (t128 == bt129.2) = true then ((gramaryelaw27_works.f k).bind fun t133 => (some t133)) else (some false)) else (some false)) else (some false))))) = some r := H
  have A2 := Aside0.mk A20
  clear A20
  replace H := Option.bind_eq_some_iff.mp H
  obtain ⟨⟨t129, t130⟩, A30, H⟩ := H
  replace H : ((word_Of.f a0).bind fun t131 => ((gramaryeref27_Of.f k a0).bind fun t132 => (if t131.toList = t132.toList then (if t127.toList = t129.toList then (if (t128 == t130) = true then ((gramaryelaw27_works.f k).bind fun t133 => (some t133)) else (some false)) else (some false)) else (some false)))) = some r := H
  have A3 := Aside0.mk A30
  clear A30
  replace H := Option.bind_eq_some_iff.mp H
  obtain ⟨t131, A40, H⟩ := H
  replace H : ((gramaryeref27_Of.f k a0).bind fun t132 => (if t131.toList = t132.toList then (if t127.toList = t129.toList then (if (t128 == t130) = true then ((gramaryelaw27_works.f k).bind fun t133 => (some t133)) else (some false)) else (some false)) else (some false))) = some r := H
  have A4 := Aside0.mk A40
  clear A40
  replace H := Option.bind_eq_some_iff.mp H
  obtain ⟨t132, A50, H⟩ := H
  replace H : (if t131.toList = t132.toList then (if t127.toList = t129.toList then (if (t128 == t130) = true then ((gramaryelaw27_works.f k).bind fun t133 => (some t133)) else (some false)) else (some false)) else (some false)) = some r := H
  have A5 := Aside0.mk A50
  clear A50
  by_cases c6 : t131.toList = t132.toList
  · rw [if_pos c6] at H
    have c6b0 : (t131.toList == t132.toList) = true := beq_iff_eq.mpr c6
    have c6b1 : (t131.toList != t132.toList) = false := bne_eq_false_iff_eq.mpr c6
    clear c6
    by_cases c7 : t127.toList = t129.toList
    · rw [if_pos c7] at H
      have c7b0 : (t127.toList == t129.toList) = true := beq_iff_eq.mpr c7
      have c7b1 : (t127.toList != t129.toList) = false := bne_eq_false_iff_eq.mpr c7
      clear c7
      by_cases c8 : (t128 == t130) = true
      · rw [if_pos c8] at H
        have c8b0 : (t128 == t130) = true := c8
        (try (have c8b1 : decide (t128 = t130) = true := by simpa using c8))
        (try (have c8b2 : (t128 == t130) = true := by simpa using c8))
        clear c8
        replace H := Option.bind_eq_some_iff.mp H
        obtain ⟨t133, A90, H⟩ := H
        replace H : (some t133) = some r := H
        have A9 := Aside0.mk A90
        clear A90
        obtain rfl := Option.some.inj H
        go_enter Tryd.func4, Tryd.ntmps4
        go_wp2_with (first | ((with_reducible refine gate_callee (f := 15) rfl ?_); refine goesL_ (some 9) rfl rfl Tryd.func15 (by kernel_rfl) rfl #[.string a0] rfl (by (try simp only [List.map_toArray, List.map_cons, List.map_nil]); first | done | rfl | (simp only [List.length_drop, List.length_take]; rfl)) ?_; (with_reducible refine (word_Rule.calls a0 t127 t128 _ A2.out).mono ?_); rintro e w' ⟨rfl, ⟨nd, rfl⟩⟩; refine ⟨_, rfl, ?_⟩) | ((with_reducible refine gate_callee (f := 16) rfl ?_); refine goesL_ (some 14) rfl rfl Tryd.func16 (by kernel_rfl) rfl #[.string a0] rfl (by (try simp only [List.map_toArray, List.map_cons, List.map_nil]); first | done | rfl | (simp only [List.length_drop, List.length_take]; rfl)) ?_; (with_reducible refine (gramaryeref27_Rule.calls k a0 t129 t130 _ A3.out).mono ?_); rintro e w' ⟨rfl, ⟨nd, rfl⟩⟩; refine ⟨_, rfl, ?_⟩) | ((with_reducible refine gate_callee (f := 17) rfl ?_); refine goesL_ (some 18) rfl rfl Tryd.func17 (by kernel_rfl) rfl #[.string a0] rfl (by (try simp only [List.map_toArray, List.map_cons, List.map_nil]); first | done | rfl | (simp only [List.length_drop, List.length_take]; rfl)) ?_; (with_reducible refine (word_Of.calls a0 t131 _ A4.out).mono ?_); rintro e w' ⟨rfl, ⟨nd, rfl⟩⟩; refine ⟨_, rfl, ?_⟩) | ((with_reducible refine gate_callee (f := 18) rfl ?_); refine goesL_ (some 20) rfl rfl Tryd.func18 (by kernel_rfl) rfl #[.string a0] rfl (by (try simp only [List.map_toArray, List.map_cons, List.map_nil]); first | done | rfl | (simp only [List.length_drop, List.length_take]; rfl)) ?_; (with_reducible refine (gramaryeref27_Of.calls k a0 t132 _ A5.out).mono ?_); rintro e w' ⟨rfl, ⟨nd, rfl⟩⟩; refine ⟨_, rfl, ?_⟩) | (go_at_call 14; (with_reducible refine (gramaryelaw27_works.calls k  t133 _ A9.out).mono ?_); rintro e w' ⟨rfl, ⟨nd, rfl⟩⟩))
        go_ret
        exact ⟨by first | rfl | (simp; done) | (simp [*]; done), by repeat (first | exact Drawn0.refl _ | apply Drawn0.step)⟩
      · rw [if_neg c8] at H
        have c8b0 : (t128 == t130) = false := by simpa using c8
        (try (have c8b1 : decide (t128 = t130) = false := by simpa using c8))
        (try (have c8b2 : (t128 == t130) = false := by simpa using c8))
        (try (have c8b3 : ¬ (t128 = t130) := by simpa using c8))
        clear c8
        obtain rfl := Option.some.inj H
        go_enter Tryd.func4, Tryd.ntmps4
        go_wp2_with (first | ((with_reducible refine gate_callee (f := 15) rfl ?_); refine goesL_ (some 9) rfl rfl Tryd.func15 (by kernel_rfl) rfl #[.string a0] rfl (by (try simp only [List.map_toArray, List.map_cons, List.map_nil]); first | done | rfl | (simp only [List.length_drop, List.length_take]; rfl)) ?_; (with_reducible refine (word_Rule.calls a0 t127 t128 _ A2.out).mono ?_); rintro e w' ⟨rfl, ⟨nd, rfl⟩⟩; refine ⟨_, rfl, ?_⟩) | ((with_reducible refine gate_callee (f := 16) rfl ?_); refine goesL_ (some 14) rfl rfl Tryd.func16 (by kernel_rfl) rfl #[.string a0] rfl (by (try simp only [List.map_toArray, List.map_cons, List.map_nil]); first | done | rfl | (simp only [List.length_drop, List.length_take]; rfl)) ?_; (with_reducible refine (gramaryeref27_Rule.calls k a0 t129 t130 _ A3.out).mono ?_); rintro e w' ⟨rfl, ⟨nd, rfl⟩⟩; refine ⟨_, rfl, ?_⟩) | ((with_reducible refine gate_callee (f := 17) rfl ?_); refine goesL_ (some 18) rfl rfl Tryd.func17 (by kernel_rfl) rfl #[.string a0] rfl (by (try simp only [List.map_toArray, List.map_cons, List.map_nil]); first | done | rfl | (simp only [List.length_drop, List.length_take]; rfl)) ?_; (with_reducible refine (word_Of.calls a0 t131 _ A4.out).mono ?_); rintro e w' ⟨rfl, ⟨nd, rfl⟩⟩; refine ⟨_, rfl, ?_⟩) | ((with_reducible refine gate_callee (f := 18) rfl ?_); refine goesL_ (some 20) rfl rfl Tryd.func18 (by kernel_rfl) rfl #[.string a0] rfl (by (try simp only [List.map_toArray, List.map_cons, List.map_nil]); first | done | rfl | (simp only [List.length_drop, List.length_take]; rfl)) ?_; (with_reducible refine (gramaryeref27_Of.calls k a0 t132 _ A5.out).mono ?_); rintro e w' ⟨rfl, ⟨nd, rfl⟩⟩; refine ⟨_, rfl, ?_⟩))
        go_ret
        exact ⟨by first | rfl | (simp; done) | (simp [*]; done), by repeat (first | exact Drawn0.refl _ | apply Drawn0.step)⟩
    · rw [if_neg c7] at H
      have c7b0 : (t127.toList == t129.toList) = false := beq_eq_false_iff_ne.mpr c7
      have c7b1 : (t127.toList != t129.toList) = true := bne_iff_ne.mpr c7
      obtain rfl := Option.some.inj H
      go_enter Tryd.func4, Tryd.ntmps4
      go_wp2_with (first | ((with_reducible refine gate_callee (f := 15) rfl ?_); refine goesL_ (some 9) rfl rfl Tryd.func15 (by kernel_rfl) rfl #[.string a0] rfl (by (try simp only [List.map_toArray, List.map_cons, List.map_nil]); first | done | rfl | (simp only [List.length_drop, List.length_take]; rfl)) ?_; (with_reducible refine (word_Rule.calls a0 t127 t128 _ A2.out).mono ?_); rintro e w' ⟨rfl, ⟨nd, rfl⟩⟩; refine ⟨_, rfl, ?_⟩) | ((with_reducible refine gate_callee (f := 16) rfl ?_); refine goesL_ (some 14) rfl rfl Tryd.func16 (by kernel_rfl) rfl #[.string a0] rfl (by (try simp only [List.map_toArray, List.map_cons, List.map_nil]); first | done | rfl | (simp only [List.length_drop, List.length_take]; rfl)) ?_; (with_reducible refine (gramaryeref27_Rule.calls k a0 t129 t130 _ A3.out).mono ?_); rintro e w' ⟨rfl, ⟨nd, rfl⟩⟩; refine ⟨_, rfl, ?_⟩) | ((with_reducible refine gate_callee (f := 17) rfl ?_); refine goesL_ (some 18) rfl rfl Tryd.func17 (by kernel_rfl) rfl #[.string a0] rfl (by (try simp only [List.map_toArray, List.map_cons, List.map_nil]); first | done | rfl | (simp only [List.length_drop, List.length_take]; rfl)) ?_; (with_reducible refine (word_Of.calls a0 t131 _ A4.out).mono ?_); rintro e w' ⟨rfl, ⟨nd, rfl⟩⟩; refine ⟨_, rfl, ?_⟩) | ((with_reducible refine gate_callee (f := 18) rfl ?_); refine goesL_ (some 20) rfl rfl Tryd.func18 (by kernel_rfl) rfl #[.string a0] rfl (by (try simp only [List.map_toArray, List.map_cons, List.map_nil]); first | done | rfl | (simp only [List.length_drop, List.length_take]; rfl)) ?_; (with_reducible refine (gramaryeref27_Of.calls k a0 t132 _ A5.out).mono ?_); rintro e w' ⟨rfl, ⟨nd, rfl⟩⟩; refine ⟨_, rfl, ?_⟩))
      go_ret
      exact ⟨by first | rfl | (simp; done) | (simp [*]; done), by repeat (first | exact Drawn0.refl _ | apply Drawn0.step)⟩
  · rw [if_neg c6] at H
    have c6b0 : (t131.toList == t132.toList) = false := beq_eq_false_iff_ne.mpr c6
    have c6b1 : (t131.toList != t132.toList) = true := bne_iff_ne.mpr c6
    obtain rfl := Option.some.inj H
    go_enter Tryd.func4, Tryd.ntmps4
    go_wp2_with (first | ((with_reducible refine gate_callee (f := 15) rfl ?_); refine goesL_ (some 9) rfl rfl Tryd.func15 (by kernel_rfl) rfl #[.string a0] rfl (by (try simp only [List.map_toArray, List.map_cons, List.map_nil]); first | done | rfl | (simp only [List.length_drop, List.length_take]; rfl)) ?_; (with_reducible refine (word_Rule.calls a0 t127 t128 _ A2.out).mono ?_); rintro e w' ⟨rfl, ⟨nd, rfl⟩⟩; refine ⟨_, rfl, ?_⟩) | ((with_reducible refine gate_callee (f := 16) rfl ?_); refine goesL_ (some 14) rfl rfl Tryd.func16 (by kernel_rfl) rfl #[.string a0] rfl (by (try simp only [List.map_toArray, List.map_cons, List.map_nil]); first | done | rfl | (simp only [List.length_drop, List.length_take]; rfl)) ?_; (with_reducible refine (gramaryeref27_Rule.calls k a0 t129 t130 _ A3.out).mono ?_); rintro e w' ⟨rfl, ⟨nd, rfl⟩⟩; refine ⟨_, rfl, ?_⟩) | ((with_reducible refine gate_callee (f := 17) rfl ?_); refine goesL_ (some 18) rfl rfl Tryd.func17 (by kernel_rfl) rfl #[.string a0] rfl (by (try simp only [List.map_toArray, List.map_cons, List.map_nil]); first | done | rfl | (simp only [List.length_drop, List.length_take]; rfl)) ?_; (with_reducible refine (word_Of.calls a0 t131 _ A4.out).mono ?_); rintro e w' ⟨rfl, ⟨nd, rfl⟩⟩; refine ⟨_, rfl, ?_⟩) | ((with_reducible refine gate_callee (f := 18) rfl ?_); refine goesL_ (some 20) rfl rfl Tryd.func18 (by kernel_rfl) rfl #[.string a0] rfl (by (try simp only [List.map_toArray, List.map_cons, List.map_nil]); first | done | rfl | (simp only [List.length_drop, List.length_take]; rfl)) ?_; (with_reducible refine (gramaryeref27_Of.calls k a0 t132 _ A5.out).mono ?_); rintro e w' ⟨rfl, ⟨nd, rfl⟩⟩; refine ⟨_, rfl, ?_⟩))
    go_ret
    exact ⟨by first | rfl | (simp; done) | (simp [*]; done), by repeat (first | exact Drawn0.refl _ | apply Drawn0.step)⟩

/-- THE ONE PURE STATEMENT of gramaryelaw27_WordRules: yours. -/
def gramaryelaw27_WordRules.Pure : Prop := ∀ (a0 : ByteArray), a0.size ≤ 140737488351232 → ∃ k, gramaryelaw27_WordRules.f k a0 = some true
theorem gramaryelaw27_WordRules.walk (P : gramaryelaw27_WordRules.Pure) (a0 : ByteArray) (w : World) (w0 : a0.size ≤ 140737488351232) (hGGKey : GKey w := by first | assumption | (unfold GKey at *; repeat (first | assumption | apply Holds.drewN | apply Holds.drew | apply Holds.alloc | exact Holds.drawn (by assumption) (by assumption) | exact Holds.aside (by assumption) (by assumption)))) (hGGResv : GResv w := by first | assumption | (unfold GResv at *; repeat (first | assumption | apply Holds.drewN | apply Holds.drew | apply Holds.alloc | exact Holds.drawn (by assumption) (by assumption) | exact Holds.aside (by assumption) (by assumption)))) :
    Calls Tryd.prog 4 #[.string a0] w fun e w' => e = .returned (.bool true) ∧ Below w.heap.size w w' := by
  obtain ⟨k, h⟩ := P a0 w0
  refine (gramaryelaw27_WordRules.calls k a0 true w h).mono ?_
  rintro e w' ⟨rfl, hd⟩
  exact ⟨rfl, hd.below⟩

end Go.Proofs.YthpiofcjckmifaaDoor.MWordRules
