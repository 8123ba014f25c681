-- A text of this claim (written by this repo's wip/myprint.py).
import Derived.Test.YthpiofcjckmifaaDoorMWordBackx0
import Derived.Test.YthpiofcjckmifaaDoorMWordBackx1
namespace Go.Proofs.YthpiofcjckmifaaDoor.MWordBack
open Go.RowKit Go.Proofs.YthpiofcjckmifaaDoorW.PrintWords Go.Proofs.YthpiofcjckmifaaDoorW.PrintLast Go.Proofs.YthpiofcjckmifaaDoorW.PrintMore Go.Proofs.YthpiofcjckmifaaDoor.Fun Go.Proofs.YthpiofcjckmifaaDoor.Glob
attribute [local go_sem] max2_int min2_int max_two min_two max_three min_three max_four min_four   -- for this text's walks alone
set_option linter.unusedVariables false
set_option linter.unusedSimpArgs false

/-! ### name_Keyword: function 30 -/
def name_Keyword.f (a0 : ByteArray) : Option Bool := some (keyL.any fun s => s.toList == a0.toList)
set_option maxHeartbeats 2000000 in
theorem name_Keyword.calls (a0 : ByteArray) (r : Bool) (w : World) (h : name_Keyword.f a0 = some r) (hG : GKey w := by first | assumption | (unfold GKey at *; repeat (first | assumption | apply Holds.drewN | apply Holds.drew | apply Holds.alloc | exact Holds.drawn (by assumption) (by assumption) | exact Holds.aside (by assumption) (by assumption)))) :
    Calls Tryd.prog 30 #[.string a0] w fun e w' => e = .returned (.bool r) ∧ Drawn0 w w' := by
  obtain rfl := Option.some.inj h
  clear h
  obtain ⟨t, fr, hg⟩ := hG.out
  have hin : (Tryd.prog.info? 35).map (·.size) = some 4 := by kernel_rfl
  have HIX := Aside0.mk (run_tab (P := Tryd.prog) 35 9 4 keyL rfl Tryd.underlying35 (fun _ => by kernel_rfl) (fun _ => by kernel_rfl))
  have HL : Aside0 (keyL.length = 4) := ⟨rfl⟩
  have hsz2 : (keyL.map Value.string).toArray.size = 4 := rfl
  generalize (keyL.map Value.string).toArray = cs at hg HIX hsz2
  go_enter Tryd.func30, Tryd.ntmps30
  go_wp2_with (refine wpList_load_row rfl 35 _ rfl 1 rfl t cs fr _ hg Tryd.underlying35 rfl (by rw [hsz2]; exact hin) ?_)
  clear hsz2
  go_loopg [6] 4 (fun gg v6 wr => ∃ kk : Nat, kk + gg = 4 ∧ v6 = .int .i64 kk ∧ wr = w ∧ Aside0 (∀ j (hj : j < keyL.length), j < kk → (keyL[j].toList == a0.toList) = false))
  case atStart => exact ⟨0, by omega, rfl, rfl, ⟨fun j _ hj => absurd hj (Nat.not_lt_zero _)⟩⟩
  case round =>
    obtain ⟨kk, hkk, rfl, rfl, HA⟩ := hrel
    by_cases hlt : kk < 4
    · have hl1 : (kk : Int) < 4 := by omega
      have hlr : kk < keyL.length := by rw [HL.out]; exact hlt
      have hi := HIX.out kk hlr wr
      generalize hs : keyL[kk]'hlr = s at hi
      have HS := Aside0.mk hs
      clear hs
      by_cases hq : s.toList = a0.toList
      · have hq1 : (s.toList == a0.toList) = true := beq_iff_eq.2 hq
        have hfin : (keyL.any fun s => s.toList == a0.toList) = true := List.any_eq_true.2 ⟨_, List.getElem_mem hlr, by rw [HS.out]; exact hq1⟩
        have HF := Aside0.mk hfin
        clear hfin hq
        go_wp2_with fail
        go_ret
        exact ⟨by rw [HF.out]; rfl, Drawn0.refl _⟩
      · have hq1 : (s.toList == a0.toList) = false := beq_eq_false_iff_ne.2 hq
        clear hq
        go_wp2_with fail
        go_roundg (4 - (kk + 1))
        case measure => omega
        case rel =>
          refine ⟨kk + 1, by omega, by go_num, rfl, ⟨fun j hj hjk => ?_⟩⟩
          by_cases e : j = kk
          · subst e; rw [HS.out]; exact hq1
          · exact HA.out j hj (by omega)
    · have hl1 : ¬ (kk : Int) < 4 := by omega
      have hfin : (keyL.any fun s => s.toList == a0.toList) = false := by
        rw [List.any_eq_false]
        intro x hx
        obtain ⟨j, hj, rfl⟩ := List.getElem_of_mem hx
        have := HL.out
        simp [HA.out j hj (by omega)]
      have HF := Aside0.mk hfin
      clear hfin
      go_wp2_with fail
      go_ret
      exact ⟨by rw [HF.out]; rfl, Drawn0.refl _⟩


/-! ### name_Name: function 24 -/
def name_smallB (c : Int) : Bool := decide (97 ≤ c ∧ c ≤ 122)
theorem name_small_pred : PredU8 Tryd.prog 29 name_smallB := by
  intro W c h0 h1
  refine name_small.calls c _ W ?_
  unfold name_small.f name_smallB
  by_cases h2 : 97 ≤ c <;> simp [h2]

def name_Name.f (a0 : ByteArray) : Option Bool := some (name_speltB name_smallB a0 && !(keyL.any fun s => s.toList == a0.toList))
set_option maxHeartbeats 2000000 in
theorem name_Name.calls (a0 : ByteArray) (r : Bool) (w : World) (h : name_Name.f a0 = some r) (hG : GKey w := by first | assumption | (unfold GKey at *; repeat (first | assumption | apply Holds.drewN | apply Holds.drew | apply Holds.alloc | exact Holds.drawn (by assumption) (by assumption) | exact Holds.aside (by assumption) (by assumption)))) :
    Calls Tryd.prog 24 #[.string a0] w fun e w' => e = .returned (.bool r) ∧ Drawn0 w w' := by
  obtain rfl := Option.some.inj h
  clear h
  have H1 := Aside0.mk (name_spelt_calls a0 29 name_smallB w (fun args w => enters_ Tryd.func29 (by kernel_rfl) rfl args w) name_small_pred)
  have H2 := Aside0.mk (fun (n : Nat) => name_Keyword.calls a0 _ (w.drewN n) rfl (hG.drewN n))
  clear hG
  generalize name_speltB name_smallB a0 = q1 at H1
  generalize (keyL.any fun s => s.toList == a0.toList) = q2 at H2
  go_enter Tryd.func24, Tryd.ntmps24
  go_wp2_with fail
  refine H1.out.mono ?_
  rintro e wa ⟨rfl, ⟨na, rfl⟩⟩
  cases q1 with
  | false => go_wp2_with fail; go_ret; exact ⟨rfl, by repeat (first | exact Drawn0.refl _ | apply Drawn0.step)⟩
  | true =>
    go_wp2_with fail
    refine (H2.out _).mono ?_
    rintro e wb ⟨rfl, ⟨nb, rfl⟩⟩
    go_wp2_with fail
    go_ret
    exact ⟨by simp, by repeat (first | exact Drawn0.refl _ | apply Drawn0.step)⟩


/-! ### word_Rule: function 15 -/
def word_Rule.f (a0 : ByteArray) : Option (ByteArray × Bool) := (strings_CutPrefix.f a0 (⟨#[114, 117, 108, 101, 95]⟩ : ByteArray)).bind fun bt112 => (if bt112.2 = true then ((name_Name.f bt112.1).bind fun t114 => (if t114 = true then (some (bt112.1, true)) else (some ((⟨#[]⟩ : ByteArray), false)))) else (some ((⟨#[]⟩ : ByteArray), false)))
set_option maxHeartbeats 8000000 in
set_option maxRecDepth 100000 in
theorem word_Rule.calls (a0 : ByteArray) (r1 : ByteArray) (r2 : Bool) (w : World) (h : word_Rule.f a0 = some (r1, r2)) (hGGKey : GKey w := by first | assumption | (unfold GKey at *; repeat (first | assumption | apply Holds.drewN | apply Holds.drew | apply Holds.alloc | exact Holds.drawn (by assumption) (by assumption) | exact Holds.aside (by assumption) (by assumption)))) :
    Calls Tryd.prog 15 #[.string a0] w fun e w' => e = .returned (.tuple #[.string r1, .bool r2]) ∧ Drawn0 w w' := by
  have H : ((strings_CutPrefix.f a0 (⟨#[114, 117, 108, 101, 95]⟩ : ByteArray)).bind fun bt112 => (if bt112.2 = true then ((name_Name.f bt112.1).bind fun t114 => (if t114 = true then (some (bt112.1, true)) else (some ((⟨#[]⟩ : ByteArray), false)))) else (some ((⟨#[]⟩ : ByteArray), false)))) = some (r1, r2) := h
  clear h
  replace H := Option.bind_eq_some_iff.mp H
  obtain ⟨⟨t112, t113⟩, A20, H⟩ := H
  replace H : (if t113 = true then ((name_Name.f t112).bind fun t114 => (if t114 = true then (some (t112, true)) else (some ((⟨#[]⟩ : ByteArray), false)))) else (some ((⟨#[]⟩ : ByteArray), false))) = some (r1, r2) := H
  have A2 := Aside0.mk A20
  clear A20
  by_cases c3 : t113 = true
  · subst c3
    have H1 : ((name_Name.f t112).bind fun t114 => (if t114 = true then (some (t112, true)) else (some ((⟨#[]⟩ : ByteArray), false)))) = some (r1, r2) := by rw [if_pos rfl] at H; exact H
    clear H
    have H := H1
    clear H1
    replace H := Option.bind_eq_some_iff.mp H
    obtain ⟨t114, A40, H⟩ := H
    replace H : (if t114 = true then (some (t112, true)) else (some ((⟨#[]⟩ : ByteArray), false))) = some (r1, r2) := H
    have A4 := Aside0.mk A40
    clear A40
    by_cases c5 : t114 = true
    · subst c5
      have H1 : (some (t112, true)) = some (r1, r2) := by rw [if_pos rfl] at H; exact H
      clear H
      have H := H1
      clear H1
      simp only [Option.some.injEq, Prod.mk.injEq] at H
      obtain ⟨rfl, rfl⟩ := H
      go_enter Tryd.func15, Tryd.ntmps15
      go_wp2_with (first | ((with_reducible refine gate_callee (f := 20) rfl ?_); refine goesL_ (some 8) rfl rfl Tryd.func20 (by kernel_rfl) rfl #[.string a0, .string (⟨#[114, 117, 108, 101, 95]⟩ : ByteArray)] rfl (by (try simp only [List.map_toArray, List.map_cons, List.map_nil]); first | done | rfl | (simp only [List.length_drop, List.length_take]; rfl)) ?_; (with_reducible refine (strings_CutPrefix.calls a0 (⟨#[114, 117, 108, 101, 95]⟩ : ByteArray) t112 true _ A2.out).mono ?_); rintro e w' ⟨rfl, ⟨nd, rfl⟩⟩; refine ⟨_, rfl, ?_⟩) | (go_at_call 24; (with_reducible refine (name_Name.calls t112 true _ A4.out).mono ?_); rintro e w' ⟨rfl, ⟨nd, rfl⟩⟩))
      go_ret2
      exact ⟨by first | rfl | (simp; done) | (simp [*]; done), by repeat (first | exact Drawn0.refl _ | apply Drawn0.step)⟩
    · replace c5 := Bool.eq_false_iff.mpr c5
      subst c5
      have H1 : (some ((⟨#[]⟩ : ByteArray), false)) = some (r1, r2) := by rw [if_neg (show ¬ (false = true) by decide)] at H; exact H
      clear H
      have H := H1
      clear H1
      simp only [Option.some.injEq, Prod.mk.injEq] at H
      obtain ⟨rfl, rfl⟩ := H
      go_enter Tryd.func15, Tryd.ntmps15
      go_wp2_with (first | ((with_reducible refine gate_callee (f := 20) rfl ?_); refine goesL_ (some 8) rfl rfl Tryd.func20 (by kernel_rfl) rfl #[.string a0, .string (⟨#[114, 117, 108, 101, 95]⟩ : ByteArray)] rfl (by (try simp only [List.map_toArray, List.map_cons, List.map_nil]); first | done | rfl | (simp only [List.length_drop, List.length_take]; rfl)) ?_; (with_reducible refine (strings_CutPrefix.calls a0 (⟨#[114, 117, 108, 101, 95]⟩ : ByteArray) t112 true _ A2.out).mono ?_); rintro e w' ⟨rfl, ⟨nd, rfl⟩⟩; refine ⟨_, rfl, ?_⟩) | (go_at_call 24; (with_reducible refine (name_Name.calls t112 false _ A4.out).mono ?_); rintro e w' ⟨rfl, ⟨nd, rfl⟩⟩))
      go_ret2
      exact ⟨by first | rfl | (simp; done) | (simp [*]; done), by repeat (first | exact Drawn0.refl _ | apply Drawn0.step)⟩
  · replace c3 := Bool.eq_false_iff.mpr c3
    subst c3
    have H1 : (some ((⟨#[]⟩ : ByteArray), false)) = some (r1, r2) := by rw [if_neg (show ¬ (false = true) by decide)] at H; exact H
    clear H
    have H := H1
    clear H1
    simp only [Option.some.injEq, Prod.mk.injEq] at H
    obtain ⟨rfl, rfl⟩ := H
    go_enter Tryd.func15, Tryd.ntmps15
    go_wp2_with (first | ((with_reducible refine gate_callee (f := 20) rfl ?_); refine goesL_ (some 8) rfl rfl Tryd.func20 (by kernel_rfl) rfl #[.string a0, .string (⟨#[114, 117, 108, 101, 95]⟩ : ByteArray)] rfl (by (try simp only [List.map_toArray, List.map_cons, List.map_nil]); first | done | rfl | (simp only [List.length_drop, List.length_take]; rfl)) ?_; (with_reducible refine (strings_CutPrefix.calls a0 (⟨#[114, 117, 108, 101, 95]⟩ : ByteArray) t112 false _ A2.out).mono ?_); rintro e w' ⟨rfl, ⟨nd, rfl⟩⟩; refine ⟨_, rfl, ?_⟩))
    go_ret2
    exact ⟨by first | rfl | (simp; done) | (simp [*]; done), by repeat (first | exact Drawn0.refl _ | apply Drawn0.step)⟩

/-! ### word_Of: function 17 -/
def word_Of.f (a0 : ByteArray) : Option (ByteArray) := (name_Name.f a0).bind fun t115 => (if t115 = true then (if 5 + a0.size ≤ 9223372036854775807 then (some ((⟨#[114, 117, 108, 101, 95]⟩ : ByteArray) ++ a0)) else (none)) else (some (⟨#[]⟩ : ByteArray)))
set_option maxHeartbeats 8000000 in
set_option maxRecDepth 100000 in
theorem word_Of.calls (a0 : ByteArray) (r : ByteArray) (w : World) (h : word_Of.f a0 = some r) (hGGKey : GKey w := by first | assumption | (unfold GKey at *; repeat (first | assumption | apply Holds.drewN | apply Holds.drew | apply Holds.alloc | exact Holds.drawn (by assumption) (by assumption) | exact Holds.aside (by assumption) (by assumption)))) :
    Calls Tryd.prog 17 #[.string a0] w fun e w' => e = .returned (.string r) ∧ Drawn0 w w' := by
  have H : ((name_Name.f a0).bind fun t115 => (if t115 = true then (if 5 + a0.size ≤ 9223372036854775807 then (some ((⟨#[114, 117, 108, 101, 95]⟩ : ByteArray) ++ a0)) else (none)) else (some (⟨#[]⟩ : ByteArray)))) = some r := h
  clear h
  replace H := Option.bind_eq_some_iff.mp H
  obtain ⟨t115, A20, H⟩ := H
  replace H : (if t115 = true then (if 5 + a0.size ≤ 9223372036854775807 then (some ((⟨#[114, 117, 108, 101, 95]⟩ : ByteArray) ++ a0)) else (none)) else (some (⟨#[]⟩ : ByteArray))) = some r := H
  have A2 := Aside0.mk A20
  clear A20
  by_cases c3 : t115 = true
  · subst c3
    have H1 : (if 5 + a0.size ≤ 9223372036854775807 then (some ((⟨#[114, 117, 108, 101, 95]⟩ : ByteArray) ++ a0)) else (none)) = some r := by rw [if_pos rfl] at H; exact H
    clear H
    have H := H1
    clear H1
    by_cases c4 : 5 + a0.size ≤ 9223372036854775807
    · rw [if_pos c4] at H
      have c4b0 := eq_true c4
      have c4b1 : decide (5 + a0.size ≤ 9223372036854775807) = true := decide_eq_true c4
      try have c4b2 : (9223372036854775807 < 5 + a0.size) = False := eq_false (Nat.not_lt.2 c4)
      obtain rfl := Option.some.inj H
      go_enter Tryd.func17, Tryd.ntmps17
      go_wp2_with (first | ((with_reducible refine gate_callee (f := 24) rfl ?_); refine goesL_ (some 4) rfl rfl Tryd.func24 (by kernel_rfl) rfl #[.string a0] rfl (by (try simp only [List.map_toArray, List.map_cons, List.map_nil]); first | done | rfl | (simp only [List.length_drop, List.length_take]; rfl)) ?_; (with_reducible refine (name_Name.calls a0 true _ A2.out).mono ?_); rintro e w' ⟨rfl, ⟨nd, rfl⟩⟩; refine ⟨_, rfl, ?_⟩))
      go_ret
      exact ⟨by first | rfl | (simp; done) | (simp [*]; done), by repeat (first | exact Drawn0.refl _ | apply Drawn0.step)⟩
    · rw [if_neg c4] at H
      exact absurd H (by simp)
  · replace c3 := Bool.eq_false_iff.mpr c3
    subst c3
    have H1 : (some (⟨#[]⟩ : ByteArray)) = some r := by rw [if_neg (show ¬ (false = true) by decide)] at H; exact H
    clear H
    have H := H1
    clear H1
    obtain rfl := Option.some.inj H
    go_enter Tryd.func17, Tryd.ntmps17
    go_wp2_with (first | ((with_reducible refine gate_callee (f := 24) rfl ?_); refine goesL_ (some 4) rfl rfl Tryd.func24 (by kernel_rfl) rfl #[.string a0] rfl (by (try simp only [List.map_toArray, List.map_cons, List.map_nil]); first | done | rfl | (simp only [List.length_drop, List.length_take]; rfl)) ?_; (with_reducible refine (name_Name.calls a0 false _ A2.out).mono ?_); rintro e w' ⟨rfl, ⟨nd, rfl⟩⟩; refine ⟨_, rfl, ?_⟩))
    go_ret
    exact ⟨by first | rfl | (simp; done) | (simp [*]; done), by repeat (first | exact Drawn0.refl _ | apply Drawn0.step)⟩

/-! ### gramaryelaw27_works: function 14 -/
def gramaryelaw27_works.f (k : Nat)  : Option (Bool) := (word_Rule.f (⟨#[114, 117, 108, 101, 95, 101, 120, 112, 114]⟩ : ByteArray)).bind fun bt116 => ((word_Of.f (⟨#[101, 120, 112, 114]⟩ : ByteArray)).bind fun t118 => (if t118.toList = ([114, 117, 108, 101, 95, 101, 120, 112, 114] : List UInt8) then (if bt116.1.toList = ([101, 120, 112, 114] : List UInt8) then (if bt116.2 = true then ((word_Is.f k (⟨#[120, 49]⟩ : ByteArray)).bind fun t119 => (if t119 = true then ((word_Is.f k (⟨#[105, 102]⟩ : ByteArray)).bind fun t120 => (if t120 = true then (some false) else ((word_Type.f k (⟨#[42, 116, 114, 101, 101]⟩ : ByteArray)).bind fun t121 => (some t121)))) else (some false))) else (some false)) else (some false)) else (some false)))
theorem gramaryelaw27_works.mono : ∀ k, LeO (gramaryelaw27_works.f k ) (gramaryelaw27_works.f (k + 1) ) := by
  intro  k
  unfold gramaryelaw27_works.f
  repeat' first
      | (with_reducible exact word_Is.mono _ _)
      | (with_reducible exact word_Type.mono _ _)
      | (with_reducible exact LeO.refl _)
      | (with_reducible exact LeO.none _)
      | (with_reducible refine LeO.ite ?_ ?_)
      | (with_reducible refine LeO.bind ?_ (fun _ => ?_))
      | exact word_Is.mono _ _
      | exact word_Type.mono _ _
      | exact LeO.none _
      | refine LeO.ite ?_ ?_
      | refine LeO.bind ?_ (fun _ => ?_)
set_option maxHeartbeats 8000000 in
set_option maxRecDepth 100000 in
theorem gramaryelaw27_works.calls (k : Nat)  (r : Bool) (w : World) (h : gramaryelaw27_works.f k  = some r) (hGGKey : GKey w := by first | assumption | (unfold GKey at *; repeat (first | assumption | apply Holds.drewN | apply Holds.drew | apply Holds.alloc | exact Holds.drawn (by assumption) (by assumption) | exact Holds.aside (by assumption) (by assumption)))) (hGGResv : GResv w := by first | assumption | (unfold GResv at *; repeat (first | assumption | apply Holds.drewN | apply Holds.drew | apply Holds.alloc | exact Holds.drawn (by assumption) (by assumption) | exact Holds.aside (by assumption) (by assumption)))) :
    Calls Tryd.prog 14 #[] w fun e w' => e = .returned (.bool r) ∧ Drawn0 w w' := by
  have H : ((word_Rule.f (⟨#[114, 117, 108, 101, 95, 101, 120, 112, 114]⟩ : ByteArray)).bind fun bt116 => ((word_Of.f (⟨#[101, 120, 112, 114]⟩ : ByteArray)).bind fun t118 => (if t118.toList = ([114, 117, 108, 101, 95, 101, 120, 112, 114] : List UInt8) then (if bt116.1.toList = ([101, 120, 112, 114] : List UInt8) then (if bt116.2 = true then ((word_Is.f k (⟨#[120, 49]⟩ : ByteArray)).bind fun t119 => (if t119 = true then ((word_Is.f k (⟨#[105, 102]⟩ : ByteArray)).bind fun t120 => (if t120 = true then (some false) else ((word_Type.f k (⟨#[42, 116, 114, 101, 101]⟩ : ByteArray)).bind fun t121 => (some t121)))) else (some false))) else (some false)) else (some false)) else (some false)))) = some r := h
  clear h
  replace H := Option.bind_eq_some_iff.mp H
  obtain ⟨⟨t116, t117⟩, A10, H⟩ := H
  replace H : ((word_Of.f (⟨#[101, 120, 112, 114]⟩ : ByteArray)).bind fun t118 => (if t118.toList = ([114, 117, 108, 101, 95, 101, 120, 112, 114] : List UInt8) then (if t116.toList = ([101, 120, 112, 114] : List UInt8) then (if t117 = true then ((word_Is.f k (⟨#[120, 49]⟩ : ByteArray)).bind fun t119 => (if t119 = true then ((word_Is.f k (⟨#[105, 102]⟩ : ByteArray)).bind fun t120 => (if t120 = true then (some false) else ((word_Type.f k (⟨#[42, 116, 114, 101, 101]⟩ : ByteArray)).bind fun t121 => (some t121)))) else (some false))) else (some false)) else (some false)) else (some false))) = some r := H
  have A1 := Aside0.mk A10
  clear A10
  replace H := Option.bind_eq_some_iff.mp H
  obtain ⟨t118, A20, H⟩ := H
  replace H : (if t118.toList = ([114, 117, 108, 101, 95, 101, 120, 112, 114] : List UInt8) then (if t116.toList = ([101, 120, 112, 114] : List UInt8) then (if t117 = true then ((word_Is.f k (⟨#[120, 49]⟩ : ByteArray)).bind fun t119 => (if t119 = true then ((word_Is.f k (⟨#[105, 102]⟩ : ByteArray)).bind fun t120 => (if t120 = true then (some false) else ((word_Type.f k (⟨#[42, 116, 114, 101, 101]⟩ : ByteArray)).bind fun t121 => (some t121)))) else (some false))) else (some false)) else (some false)) else (some false)) = some r := H
  have A2 := Aside0.mk A20
  clear A20
  by_cases c3 : t118.toList = ([114, 117, 108, 101, 95, 101, 120, 112, 114] : List UInt8)
  · rw [if_pos c3] at H
    have c3b0 : (t118.toList == ([114, 117, 108, 101, 95, 101, 120, 112, 114] : List UInt8)) = true := beq_iff_eq.mpr c3
    have c3b1 : (t118.toList != ([114, 117, 108, 101, 95, 101, 120, 112, 114] : List UInt8)) = false := bne_eq_false_iff_eq.mpr c3
    clear c3
    by_cases c4 : t116.toList = ([101, 120, 112, 114] : List UInt8)
    · rw [if_pos c4] at H
      have c4b0 : (t116.toList == ([101, 120, 112, 114] : List UInt8)) = true := beq_iff_eq.mpr c4
      have c4b1 : (t116.toList != ([101, 120, 112, 114] : List UInt8)) = false := bne_eq_false_iff_eq.mpr c4
      clear c4
      by_cases c5 : t117 = true
      · subst c5
        have H1 : ((word_Is.f k (⟨#[120, 49]⟩ : ByteArray)).bind fun t119 => (if t119 = true then ((word_Is.f k (⟨#[105, 102]⟩ : ByteArray)).bind fun t120 => (if t120 = true then (some false) else ((word_Type.f k (⟨#[42, 116, 114, 101, 101]⟩ : ByteArray)).bind fun t121 => (some t121)))) else (some false))) = some r := by rw [if_pos rfl] at H; exact H
        clear H
        have H := H1
        clear H1
        replace H := Option.bind_eq_some_iff.mp H
        obtain ⟨t119, A60, H⟩ := H
        replace H : (if t119 = true then ((word_Is.f k (⟨#[105, 102]⟩ : ByteArray)).bind fun t120 => (if t120 = true then (some false) else ((word_Type.f k (⟨#[42, 116, 114, 101, 101]⟩ : ByteArray)).bind fun t121 => (some t121)))) else (some false)) = some r := H
        have A6 := Aside0.mk A60
        clear A60
        by_cases c7 : t119 = true
        · subst c7
          have H1 : ((word_Is.f k (⟨#[105, 102]⟩ : ByteArray)).bind fun t120 => (if t120 = true then (some false) else ((word_Type.f k (⟨#[42, 116, 114, 101, 101]⟩ : ByteArray)).bind fun t121 => (some t121)))) = some r := by rw [if_pos rfl] at H; exact H
          clear H
          have H := H1
          clear H1
          replace H := Option.bind_eq_some_iff.mp H
          obtain ⟨t120, A80, H⟩ := H
          replace H : (if t120 = true then (some false) else ((word_Type.f k (⟨#[42, 116, 114, 101, 101]⟩ : ByteArray)).bind fun t121 => (some t121))) = some r := H
          have A8 := Aside0.mk A80
          clear A80
          by_cases c9 : t120 = true
          · subst c9
            have H1 : (some false) = some r := by rw [if_pos rfl] at H; exact H
            clear H
            have H := H1
            clear H1
            obtain rfl := Option.some.inj H
            go_enter Tryd.func14, Tryd.ntmps14
            go_wp2_with (first | ((with_reducible refine gate_callee (f := 15) rfl ?_); refine goesL_ (some 4) rfl rfl Tryd.func15 (by kernel_rfl) rfl #[.string (⟨#[114, 117, 108, 101, 95, 101, 120, 112, 114]⟩ : ByteArray)] rfl (by (try simp only [List.map_toArray, List.map_cons, List.map_nil]); first | done | rfl | (simp only [List.length_drop, List.length_take]; rfl)) ?_; (with_reducible refine (word_Rule.calls (⟨#[114, 117, 108, 101, 95, 101, 120, 112, 114]⟩ : ByteArray) t116 true _ A1.out).mono ?_); rintro e w' ⟨rfl, ⟨nd, rfl⟩⟩; refine ⟨_, rfl, ?_⟩) | ((with_reducible refine gate_callee (f := 17) rfl ?_); refine goesL_ (some 7) rfl rfl Tryd.func17 (by kernel_rfl) rfl #[.string (⟨#[101, 120, 112, 114]⟩ : ByteArray)] rfl (by (try simp only [List.map_toArray, List.map_cons, List.map_nil]); first | done | rfl | (simp only [List.length_drop, List.length_take]; rfl)) ?_; (with_reducible refine (word_Of.calls (⟨#[101, 120, 112, 114]⟩ : ByteArray) t118 _ A2.out).mono ?_); rintro e w' ⟨rfl, ⟨nd, rfl⟩⟩; refine ⟨_, rfl, ?_⟩) | (go_at_call 8; (with_reducible refine (word_Is.calls k (⟨#[120, 49]⟩ : ByteArray) true _ A6.out).mono ?_); rintro e w' ⟨rfl, ⟨nd, rfl⟩⟩) | (go_at_call 8; (with_reducible refine (word_Is.calls k (⟨#[105, 102]⟩ : ByteArray) true _ A8.out).mono ?_); rintro e w' ⟨rfl, ⟨nd, rfl⟩⟩))
            go_ret
            exact ⟨by first | rfl | (simp; done) | (simp [*]; done), by repeat (first | exact Drawn0.refl _ | apply Drawn0.step)⟩
          · replace c9 := Bool.eq_false_iff.mpr c9
            subst c9
            have H1 : ((word_Type.f k (⟨#[42, 116, 114, 101, 101]⟩ : ByteArray)).bind fun t121 => (some t121)) = some r := by rw [if_neg (show ¬ (false = true) by decide)] at H; exact H
            clear H
            have H := H1
            clear H1
            replace H := Option.bind_eq_some_iff.mp H
            obtain ⟨t121, A100, H⟩ := H
            replace H : (some t121) = some r := H
            have A10 := Aside0.mk A100
            clear A100
            obtain rfl := Option.some.inj H
            go_enter Tryd.func14, Tryd.ntmps14
            go_wp2_with (first | ((with_reducible refine gate_callee (f := 15) rfl ?_); refine goesL_ (some 4) rfl rfl Tryd.func15 (by kernel_rfl) rfl #[.string (⟨#[114, 117, 108, 101, 95, 101, 120, 112, 114]⟩ : ByteArray)] rfl (by (try simp only [List.map_toArray, List.map_cons, List.map_nil]); first | done | rfl | (simp only [List.length_drop, List.length_take]; rfl)) ?_; (with_reducible refine (word_Rule.calls (⟨#[114, 117, 108, 101, 95, 101, 120, 112, 114]⟩ : ByteArray) t116 true _ A1.out).mono ?_); rintro e w' ⟨rfl, ⟨nd, rfl⟩⟩; refine ⟨_, rfl, ?_⟩) | ((with_reducible refine gate_callee (f := 17) rfl ?_); refine goesL_ (some 7) rfl rfl Tryd.func17 (by kernel_rfl) rfl #[.string (⟨#[101, 120, 112, 114]⟩ : ByteArray)] rfl (by (try simp only [List.map_toArray, List.map_cons, List.map_nil]); first | done | rfl | (simp only [List.length_drop, List.length_take]; rfl)) ?_; (with_reducible refine (word_Of.calls (⟨#[101, 120, 112, 114]⟩ : ByteArray) t118 _ A2.out).mono ?_); rintro e w' ⟨rfl, ⟨nd, rfl⟩⟩; refine ⟨_, rfl, ?_⟩) | (go_at_call 8; (with_reducible refine (word_Is.calls k (⟨#[120, 49]⟩ : ByteArray) true _ A6.out).mono ?_); rintro e w' ⟨rfl, ⟨nd, rfl⟩⟩) | (go_at_call 8; (with_reducible refine (word_Is.calls k (⟨#[105, 102]⟩ : ByteArray) false _ A8.out).mono ?_); rintro e w' ⟨rfl, ⟨nd, rfl⟩⟩) | (go_at_call 12; (with_reducible refine (word_Type.calls k (⟨#[42, 116, 114, 101, 101]⟩ : ByteArray) t121 _ A10.out).mono ?_); rintro e w' ⟨rfl, ⟨nd, rfl⟩⟩))
            go_ret
            exact ⟨by first | rfl | (simp; done) | (simp [*]; done), by repeat (first | exact Drawn0.refl _ | apply Drawn0.step)⟩
        · replace c7 := Bool.eq_false_iff.mpr c7
          subst c7
          have H1 : (some false) = some r := by rw [if_neg (show ¬ (false = true) by decide)] at H; exact H
          clear H
          have H := H1
          clear H1
          obtain rfl := Option.some.inj H
          go_enter Tryd.func14, Tryd.ntmps14
          go_wp2_with (first | ((with_reducible refine gate_callee (f := 15) rfl ?_); refine goesL_ (some 4) rfl rfl Tryd.func15 (by kernel_rfl) rfl #[.string (⟨#[114, 117, 108, 101, 95, 101, 120, 112, 114]⟩ : ByteArray)] rfl (by (try simp only [List.map_toArray, List.map_cons, List.map_nil]); first | done | rfl | (simp only [List.length_drop, List.length_take]; rfl)) ?_; (with_reducible refine (word_Rule.calls (⟨#[114, 117, 108, 101, 95, 101, 120, 112, 114]⟩ : ByteArray) t116 true _ A1.out).mono ?_); rintro e w' ⟨rfl, ⟨nd, rfl⟩⟩; refine ⟨_, rfl, ?_⟩) | ((with_reducible refine gate_callee (f := 17) rfl ?_); refine goesL_ (some 7) rfl rfl Tryd.func17 (by kernel_rfl) rfl #[.string (⟨#[101, 120, 112, 114]⟩ : ByteArray)] rfl (by (try simp only [List.map_toArray, List.map_cons, List.map_nil]); first | done | rfl | (simp only [List.length_drop, List.length_take]; rfl)) ?_; (with_reducible refine (word_Of.calls (⟨#[101, 120, 112, 114]⟩ : ByteArray) t118 _ A2.out).mono ?_); rintro e w' ⟨rfl, ⟨nd, rfl⟩⟩; refine ⟨_, rfl, ?_⟩) | (go_at_call 8; (with_reducible refine (word_Is.calls k (⟨#[120, 49]⟩ : ByteArray) false _ A6.out).mono ?_); rintro e w' ⟨rfl, ⟨nd, rfl⟩⟩))
          go_ret
          exact ⟨by first | rfl | (simp; done) | (simp [*]; done), by repeat (first | exact Drawn0.refl _ | apply Drawn0.step)⟩
      · replace c5 := Bool.eq_false_iff.mpr c5
        subst c5
        have H1 : (some false) = some r := by rw [if_neg (show ¬ (false = true) by decide)] at H; exact H
        clear H
        have H := H1
        clear H1
        obtain rfl := Option.some.inj H
        go_enter Tryd.func14, Tryd.ntmps14
        go_wp2_with (first | ((with_reducible refine gate_callee (f := 15) rfl ?_); refine goesL_ (some 4) rfl rfl Tryd.func15 (by kernel_rfl) rfl #[.string (⟨#[114, 117, 108, 101, 95, 101, 120, 112, 114]⟩ : ByteArray)] rfl (by (try simp only [List.map_toArray, List.map_cons, List.map_nil]); first | done | rfl | (simp only [List.length_drop, List.length_take]; rfl)) ?_; (with_reducible refine (word_Rule.calls (⟨#[114, 117, 108, 101, 95, 101, 120, 112, 114]⟩ : ByteArray) t116 false _ A1.out).mono ?_); rintro e w' ⟨rfl, ⟨nd, rfl⟩⟩; refine ⟨_, rfl, ?_⟩) | ((with_reducible refine gate_callee (f := 17) rfl ?_); refine goesL_ (some 7) rfl rfl Tryd.func17 (by kernel_rfl) rfl #[.string (⟨#[101, 120, 112, 114]⟩ : ByteArray)] rfl (by (try simp only [List.map_toArray, List.map_cons, List.map_nil]); first | done | rfl | (simp only [List.length_drop, List.length_take]; rfl)) ?_; (with_reducible refine (word_Of.calls (⟨#[101, 120, 112, 114]⟩ : ByteArray) t118 _ A2.out).mono ?_); rintro e w' ⟨rfl, ⟨nd, rfl⟩⟩; refine ⟨_, rfl, ?_⟩))
        go_ret
        exact ⟨by first | rfl | (simp; done) | (simp [*]; done), by repeat (first | exact Drawn0.refl _ | apply Drawn0.step)⟩
    · rw [if_neg c4] at H
      have c4b0 : (t116.toList == ([101, 120, 112, 114] : List UInt8)) = false := beq_eq_false_iff_ne.mpr c4
      have c4b1 : (t116.toList != ([101, 120, 112, 114] : List UInt8)) = true := bne_iff_ne.mpr c4
      obtain rfl := Option.some.inj H
      go_enter Tryd.func14, Tryd.ntmps14
      go_wp2_with (first | ((with_reducible refine gate_callee (f := 15) rfl ?_); refine goesL_ (some 4) rfl rfl Tryd.func15 (by kernel_rfl) rfl #[.string (⟨#[114, 117, 108, 101, 95, 101, 120, 112, 114]⟩ : ByteArray)] rfl (by (try simp only [List.map_toArray, List.map_cons, List.map_nil]); first | done | rfl | (simp only [List.length_drop, List.length_take]; rfl)) ?_; (with_reducible refine (word_Rule.calls (⟨#[114, 117, 108, 101, 95, 101, 120, 112, 114]⟩ : ByteArray) t116 t117 _ A1.out).mono ?_); rintro e w' ⟨rfl, ⟨nd, rfl⟩⟩; refine ⟨_, rfl, ?_⟩) | ((with_reducible refine gate_callee (f := 17) rfl ?_); refine goesL_ (some 7) rfl rfl Tryd.func17 (by kernel_rfl) rfl #[.string (⟨#[101, 120, 112, 114]⟩ : ByteArray)] rfl (by (try simp only [List.map_toArray, List.map_cons, List.map_nil]); first | done | rfl | (simp only [List.length_drop, List.length_take]; rfl)) ?_; (with_reducible refine (word_Of.calls (⟨#[101, 120, 112, 114]⟩ : ByteArray) t118 _ A2.out).mono ?_); rintro e w' ⟨rfl, ⟨nd, rfl⟩⟩; refine ⟨_, rfl, ?_⟩))
      go_ret
      exact ⟨by first | rfl | (simp; done) | (simp [*]; done), by repeat (first | exact Drawn0.refl _ | apply Drawn0.step)⟩
  · rw [if_neg c3] at H
    have c3b0 : (t118.toList == ([114, 117, 108, 101, 95, 101, 120, 112, 114] : List UInt8)) = false := beq_eq_false_iff_ne.mpr c3
    have c3b1 : (t118.toList != ([114, 117, 108, 101, 95, 101, 120, 112, 114] : List UInt8)) = true := bne_iff_ne.mpr c3
    obtain rfl := Option.some.inj H
    go_enter Tryd.func14, Tryd.ntmps14
    go_wp2_with (first | ((with_reducible refine gate_callee (f := 15) rfl ?_); refine goesL_ (some 4) rfl rfl Tryd.func15 (by kernel_rfl) rfl #[.string (⟨#[114, 117, 108, 101, 95, 101, 120, 112, 114]⟩ : ByteArray)] rfl (by (try simp only [List.map_toArray, List.map_cons, List.map_nil]); first | done | rfl | (simp only [List.length_drop, List.length_take]; rfl)) ?_; (with_reducible refine (word_Rule.calls (⟨#[114, 117, 108, 101, 95, 101, 120, 112, 114]⟩ : ByteArray) t116 t117 _ A1.out).mono ?_); rintro e w' ⟨rfl, ⟨nd, rfl⟩⟩; refine ⟨_, rfl, ?_⟩) | ((with_reducible refine gate_callee (f := 17) rfl ?_); refine goesL_ (some 7) rfl rfl Tryd.func17 (by kernel_rfl) rfl #[.string (⟨#[101, 120, 112, 114]⟩ : ByteArray)] rfl (by (try simp only [List.map_toArray, List.map_cons, List.map_nil]); first | done | rfl | (simp only [List.length_drop, List.length_take]; rfl)) ?_; (with_reducible refine (word_Of.calls (⟨#[101, 120, 112, 114]⟩ : ByteArray) t118 _ A2.out).mono ?_); rintro e w' ⟨rfl, ⟨nd, rfl⟩⟩; refine ⟨_, rfl, ?_⟩))
    go_ret
    exact ⟨by first | rfl | (simp; done) | (simp [*]; done), by repeat (first | exact Drawn0.refl _ | apply Drawn0.step)⟩

/-! ### gramaryeref02_letters: function 31 -/
mutual
def gramaryeref02_letters.j0 : Nat → ByteArray → Int → Bool → Option (Bool)
  | 0, _, _, _ => none
  | k + 1, x0, x1, x15 => if x15 = true then (some false) else (gramaryeref02_letters.l0 k x0 x1 0)
def gramaryeref02_letters.l0 : Nat → ByteArray → Int → Int → Option (Bool)
  | 0, _, _, _ => none
  | k + 1, x0, x1, x5 => if x5 < (x0.size : Int) then (if 0 ≤ x5 then (if (bt x0 x5) ≥ x1 then (if ((bt x0 x5) ≤ ((x1 + 25) % 256)) then (gramaryeref02_letters.l0 k x0 x1 (wrap64 (x5 + 1))) else (if x5 = 0 then (some false) else (if (bt x0 x5) = 95 then (gramaryeref02_letters.l0 k x0 x1 (wrap64 (x5 + 1))) else (if (bt x0 x5) < 48 then (some false) else (if (bt x0 x5) > 57 then (some false) else (gramaryeref02_letters.l0 k x0 x1 (wrap64 (x5 + 1)))))))) else (if x5 = 0 then (some false) else (if (bt x0 x5) = 95 then (gramaryeref02_letters.l0 k x0 x1 (wrap64 (x5 + 1))) else (if (bt x0 x5) < 48 then (some false) else (if (bt x0 x5) > 57 then (some false) else (gramaryeref02_letters.l0 k x0 x1 (wrap64 (x5 + 1)))))))) else (none)) else (some true)
end
def gramaryeref02_letters.f (k : Nat) (a0 : ByteArray) (a1 : Int) : Option (Bool) := if (a0.size : Int) < 1 then (gramaryeref02_letters.j0 k a0 a1 true) else (gramaryeref02_letters.j0 k a0 a1 (decide ((a0.size : Int) > 20)))
theorem gramaryeref02_letters.mono_l : ∀ k, (∀ y0 y1 y2, LeO (gramaryeref02_letters.j0 k y0 y1 y2) (gramaryeref02_letters.j0 (k + 1) y0 y1 y2)) ∧ (∀ y0 y1 y2, LeO (gramaryeref02_letters.l0 k y0 y1 y2) (gramaryeref02_letters.l0 (k + 1) y0 y1 y2))
  | 0 => ⟨fun _ _ _ r h => by simp [gramaryeref02_letters.j0] at h, fun _ _ _ r h => by simp [gramaryeref02_letters.l0] at h⟩
  | k + 1 => by
    obtain ⟨ih0, ih1⟩ := gramaryeref02_letters.mono_l k
    refine ⟨?_, ?_⟩
    · intro y0 y1 y2
      unfold gramaryeref02_letters.j0
      repeat' first
      | (with_reducible exact ih0 _ _ _)
      | (with_reducible exact ih1 _ _ _)
      | (with_reducible exact LeO.refl _)
      | (with_reducible exact LeO.none _)
      | (with_reducible refine LeO.ite ?_ ?_)
      | (with_reducible refine LeO.bind ?_ (fun _ => ?_))
      | exact ih0 _ _ _
      | exact ih1 _ _ _
      | exact LeO.none _
      | refine LeO.ite ?_ ?_
      | refine LeO.bind ?_ (fun _ => ?_)
    · intro y0 y1 y2
      unfold gramaryeref02_letters.l0
      repeat' first
      | (with_reducible exact ih0 _ _ _)
      | (with_reducible exact ih1 _ _ _)
      | (with_reducible exact LeO.refl _)
      | (with_reducible exact LeO.none _)
      | (with_reducible refine LeO.ite ?_ ?_)
      | (with_reducible refine LeO.bind ?_ (fun _ => ?_))
      | exact ih0 _ _ _
      | exact ih1 _ _ _
      | exact LeO.none _
      | refine LeO.ite ?_ ?_
      | refine LeO.bind ?_ (fun _ => ?_)
theorem gramaryeref02_letters.mono : ∀ a0 a1 k, LeO (gramaryeref02_letters.f k a0 a1) (gramaryeref02_letters.f (k + 1) a0 a1) := by
  intro a0 a1 k
  obtain ⟨ih0, ih1⟩ := gramaryeref02_letters.mono_l k
  unfold gramaryeref02_letters.f
  repeat' first
      | (with_reducible exact ih0 _ _ _)
      | (with_reducible exact ih1 _ _ _)
      | (with_reducible exact LeO.refl _)
      | (with_reducible exact LeO.none _)
      | (with_reducible refine LeO.ite ?_ ?_)
      | (with_reducible refine LeO.bind ?_ (fun _ => ?_))
      | exact ih0 _ _ _
      | exact ih1 _ _ _
      | exact LeO.none _
      | refine LeO.ite ?_ ?_
      | refine LeO.bind ?_ (fun _ => ?_)
set_option maxHeartbeats 8000000 in
set_option maxRecDepth 100000 in
theorem gramaryeref02_letters.calls (k : Nat) (a0 : ByteArray) (a1 : Int) (r : Bool) (w : World) (h : gramaryeref02_letters.f k a0 a1 = some r) :
    Calls Tryd.prog 31 #[.string a0, .int .u8 a1] w fun e w' => e = .returned (.bool r) ∧ Drawn0 w w' := by
  have H : (if (a0.size : Int) < 1 then (gramaryeref02_letters.j0 k a0 a1 true) else (gramaryeref02_letters.j0 k a0 a1 (decide ((a0.size : Int) > 20)))) = some r := h
  clear h
  have HC3 := Aside0.mk H
  clear H
  go_enter Tryd.func31, Tryd.ntmps31
  go_upto_region 1 with (fail)
  go_cut [15] (fun v15 wc => ∃ (kq : Nat) (x15_2 : Bool), v15 = .bool x15_2 ∧ Aside0 (gramaryeref02_letters.j0 kq a0 a1 x15_2 = some r) ∧ Aside0 (kq ≤ k) ∧ Drawn0 w wc)
  case first =>
    have H := HC3.out
    clear HC3
    by_cases c4 : (a0.size : Int) < 1
    · rw [if_pos c4] at H
      have c4b0 : decide ((a0.size : Int) < 1) = true := decide_eq_true c4
      have c4b1 : decide (a0.size < 1) = true := decide_eq_true (by omega)
      clear c4
      (first | rw [c4b0] | (simp only [i64_w, i32_w]; rw [c4b0]) | skip)
      have H' := Aside0.mk H
      clear H
      go_wp2
      go_meet
      case rel => exact ⟨_, (true), (by first | rfl | (simp; done) | (simp [*]; done)), H', ⟨by first | omega | exact Nat.le_refl _⟩, by repeat (first | exact Drawn0.refl _ | apply Drawn0.step)⟩
    · rw [if_neg c4] at H
      have c4b0 : decide ((a0.size : Int) < 1) = false := decide_eq_false c4
      have c4b1 : decide (a0.size < 1) = false := decide_eq_false (by omega)
      clear c4
      (first | rw [c4b0] | (simp only [i64_w, i32_w]; rw [c4b0]) | skip)
      have H' := Aside0.mk H
      clear H
      go_wp2
      go_meet
      case rel => exact ⟨_, (decide ((a0.size : Int) > 20)), (by first | rfl | (simp; done) | (simp [*]; done)), H', ⟨by first | omega | exact Nat.le_refl _⟩, by repeat (first | exact Drawn0.refl _ | apply Drawn0.step)⟩
  case rest =>
    clear HC3
    try clear p2
    try clear c3
    try clear c4
    try clear c4b0
    try clear c4b1
    obtain ⟨kq, x15_2, rfl, HA, HJ2, ⟨mc2, rfl⟩⟩ := hcut
    cases kq with
    | zero => exact absurd HA.out (by simp [gramaryeref02_letters.j0])
    | succ kj2 =>
      have H := HA.out
      clear HA
      simp only [gramaryeref02_letters.j0] at H
      by_cases c5 : x15_2 = true
      · subst c5
        have H1 : (some false) = some r := by rw [if_pos rfl] at H; exact H
        clear H
        have H := H1
        clear H1
        obtain rfl := Option.some.inj H
        go_wp2
        go_ret
        exact ⟨by first | rfl | (simp; done) | (simp [*]; done), by repeat (first | exact Drawn0.refl _ | apply Drawn0.step)⟩
      · replace c5 := Bool.eq_false_iff.mpr c5
        subst c5
        have H1 : (gramaryeref02_letters.l0 kj2 a0 a1 0) = some r := by rw [if_neg (show ¬ (false = true) by decide)] at H; exact H
        clear H
        have H := H1
        clear H1
        have H' := Aside0.mk H
        clear H
        go_wp2
        go_loopg [5] kj2 (fun kq v5 w' => ∃ (x5_2 : Int), v5 = .int .i64 x5_2 ∧ Aside0 (gramaryeref02_letters.l0 kq a0 a1 x5_2 = some r) ∧ Aside0 (kq ≤ kj2) ∧ Drawn0 w w')
        case atStart => exact ⟨(0), (by first | rfl | (simp; done) | (simp [*]; done)), H', ⟨Nat.le_refl _⟩, by repeat (first | exact Drawn0.refl _ | apply Drawn0.step)⟩
        case round =>
          clear H'
          try clear c2
          try clear p2
          try clear c3
          try clear c4
          try clear c4b0
          try clear c4b1
          try clear c5
          try clear p2
          obtain ⟨x5_2, rfl, HA, HK2, ⟨m2, rfl⟩⟩ := hrel
          cases gk with
          | zero => exact absurd HA.out (by simp [gramaryeref02_letters.l0])
          | succ k2 =>
            have H := HA.out
            clear HA
            simp only [gramaryeref02_letters.l0] at H
            by_cases c6 : x5_2 < (a0.size : Int)
            · rw [if_pos c6] at H
              have c6b0 : decide (x5_2 < (a0.size : Int)) = true := decide_eq_true c6
              clear c6
              by_cases c7 : 0 ≤ x5_2
              · rw [if_pos c7] at H
                have c7b0 : decide (0 ≤ x5_2) = true := decide_eq_true c7
                clear c7
                by_cases c9 : (bt a0 x5_2) ≥ a1
                · rw [if_pos c9] at H
                  have c9b0 : decide (a1 ≤ (bt a0 x5_2)) = true := decide_eq_true c9
                  clear c9
                  by_cases c10 : ((bt a0 x5_2) ≤ ((a1 + 25) % 256))
                  · rw [if_pos c10] at H
                    have c10b0 : decide ((bt a0 x5_2) ≤ ((a1 + 25) % 256)) = true := decide_eq_true c10
                    clear c10
                    have H' := Aside0.mk H
                    clear H
                    have p8 : 0 ≤ (x5_2 : Int) := of_decide_eq_true (by first | (with_reducible assumption) | assumption)
                    have q8 : x5_2 < (a0.size : Int) := of_decide_eq_true (by first | (with_reducible assumption) | assumption)
                    have hx8 := bt_at a0 x5_2
                    replace p8 := eq_true p8
                    replace q8 := eq_true q8
                    go_wp2
                    go_roundg k2
                    case measure => have := HJ2.out; have := HK2.out; omega
                    case rel => exact ⟨(wrap64 (x5_2 + 1)), (by first | rfl | (simp; done) | (simp [*]; done)), H', ⟨by have := HJ2.out; have := HK2.out; omega⟩, by repeat (first | exact Drawn0.refl _ | apply Drawn0.step)⟩
                  · rw [if_neg c10] at H
                    have c10b0 : decide ((bt a0 x5_2) ≤ ((a1 + 25) % 256)) = false := decide_eq_false c10
                    clear c10
                    by_cases c11 : x5_2 = 0
                    · rw [if_pos c11] at H
                      have c11b0 : (x5_2 == 0) = true := beq_iff_eq.mpr c11
                      have c11b1 : (x5_2 != 0) = false := bne_eq_false_iff_eq.mpr c11
                      clear c11
                      obtain rfl := Option.some.inj H
                      have p8 : 0 ≤ (x5_2 : Int) := of_decide_eq_true (by first | (with_reducible assumption) | assumption)
                      have q8 : x5_2 < (a0.size : Int) := of_decide_eq_true (by first | (with_reducible assumption) | assumption)
                      have hx8 := bt_at a0 x5_2
                      replace p8 := eq_true p8
                      replace q8 := eq_true q8
                      go_wp2
                      go_ret
                      exact ⟨by first | rfl | (simp; done) | (simp [*]; done), by repeat (first | exact Drawn0.refl _ | apply Drawn0.step)⟩
                    · rw [if_neg c11] at H
                      have c11b0 : (x5_2 == 0) = false := beq_eq_false_iff_ne.mpr c11
                      have c11b1 : (x5_2 != 0) = true := bne_iff_ne.mpr c11
                      by_cases c12 : (bt a0 x5_2) = 95
                      · rw [if_pos c12] at H
                        have c12b0 : ((bt a0 x5_2) == 95) = true := beq_iff_eq.mpr c12
                        have c12b1 : ((bt a0 x5_2) != 95) = false := bne_eq_false_iff_eq.mpr c12
                        clear c12
                        have H' := Aside0.mk H
                        clear H
                        have p8 : 0 ≤ (x5_2 : Int) := of_decide_eq_true (by first | (with_reducible assumption) | assumption)
                        have q8 : x5_2 < (a0.size : Int) := of_decide_eq_true (by first | (with_reducible assumption) | assumption)
                        have hx8 := bt_at a0 x5_2
                        replace p8 := eq_true p8
                        replace q8 := eq_true q8
                        go_wp2
                        go_roundg k2
                        case measure => have := HJ2.out; have := HK2.out; omega
                        case rel => exact ⟨(wrap64 (x5_2 + 1)), (by first | rfl | (simp; done) | (simp [*]; done)), H', ⟨by have := HJ2.out; have := HK2.out; omega⟩, by repeat (first | exact Drawn0.refl _ | apply Drawn0.step)⟩
                      · rw [if_neg c12] at H
                        have c12b0 : ((bt a0 x5_2) == 95) = false := beq_eq_false_iff_ne.mpr c12
                        have c12b1 : ((bt a0 x5_2) != 95) = true := bne_iff_ne.mpr c12
                        by_cases c13 : (bt a0 x5_2) < 48
                        · rw [if_pos c13] at H
                          have c13b0 : decide ((bt a0 x5_2) < 48) = true := decide_eq_true c13
                          clear c13
                          obtain rfl := Option.some.inj H
                          have p8 : 0 ≤ (x5_2 : Int) := of_decide_eq_true (by first | (with_reducible assumption) | assumption)
                          have q8 : x5_2 < (a0.size : Int) := of_decide_eq_true (by first | (with_reducible assumption) | assumption)
                          have hx8 := bt_at a0 x5_2
                          replace p8 := eq_true p8
                          replace q8 := eq_true q8
                          go_wp2
                          go_ret
                          exact ⟨by first | rfl | (simp; done) | (simp [*]; done), by repeat (first | exact Drawn0.refl _ | apply Drawn0.step)⟩
                        · rw [if_neg c13] at H
                          have c13b0 : decide ((bt a0 x5_2) < 48) = false := decide_eq_false c13
                          clear c13
                          by_cases c14 : (bt a0 x5_2) > 57
                          · rw [if_pos c14] at H
                            have c14b0 : decide (57 < (bt a0 x5_2)) = true := decide_eq_true c14
                            clear c14
                            obtain rfl := Option.some.inj H
                            have p8 : 0 ≤ (x5_2 : Int) := of_decide_eq_true (by first | (with_reducible assumption) | assumption)
                            have q8 : x5_2 < (a0.size : Int) := of_decide_eq_true (by first | (with_reducible assumption) | assumption)
                            have hx8 := bt_at a0 x5_2
                            replace p8 := eq_true p8
                            replace q8 := eq_true q8
                            go_wp2
                            go_ret
                            exact ⟨by first | rfl | (simp; done) | (simp [*]; done), by repeat (first | exact Drawn0.refl _ | apply Drawn0.step)⟩
                          · rw [if_neg c14] at H
                            have c14b0 : decide (57 < (bt a0 x5_2)) = false := decide_eq_false c14
                            clear c14
                            have H' := Aside0.mk H
                            clear H
                            have p8 : 0 ≤ (x5_2 : Int) := of_decide_eq_true (by first | (with_reducible assumption) | assumption)
                            have q8 : x5_2 < (a0.size : Int) := of_decide_eq_true (by first | (with_reducible assumption) | assumption)
                            have hx8 := bt_at a0 x5_2
                            replace p8 := eq_true p8
                            replace q8 := eq_true q8
                            go_wp2
                            go_roundg k2
                            case measure => have := HJ2.out; have := HK2.out; omega
                            case rel => exact ⟨(wrap64 (x5_2 + 1)), (by first | rfl | (simp; done) | (simp [*]; done)), H', ⟨by have := HJ2.out; have := HK2.out; omega⟩, by repeat (first | exact Drawn0.refl _ | apply Drawn0.step)⟩
                · rw [if_neg c9] at H
                  have c9b0 : decide (a1 ≤ (bt a0 x5_2)) = false := decide_eq_false c9
                  clear c9
                  by_cases c15 : x5_2 = 0
                  · rw [if_pos c15] at H
                    have c15b0 : (x5_2 == 0) = true := beq_iff_eq.mpr c15
                    have c15b1 : (x5_2 != 0) = false := bne_eq_false_iff_eq.mpr c15
                    clear c15
                    obtain rfl := Option.some.inj H
                    have p8 : 0 ≤ (x5_2 : Int) := of_decide_eq_true (by first | (with_reducible assumption) | assumption)
                    have q8 : x5_2 < (a0.size : Int) := of_decide_eq_true (by first | (with_reducible assumption) | assumption)
                    have hx8 := bt_at a0 x5_2
                    replace p8 := eq_true p8
                    replace q8 := eq_true q8
                    go_wp2
                    go_ret
                    exact ⟨by first | rfl | (simp; done) | (simp [*]; done), by repeat (first | exact Drawn0.refl _ | apply Drawn0.step)⟩
                  · rw [if_neg c15] at H
                    have c15b0 : (x5_2 == 0) = false := beq_eq_false_iff_ne.mpr c15
                    have c15b1 : (x5_2 != 0) = true := bne_iff_ne.mpr c15
                    by_cases c16 : (bt a0 x5_2) = 95
                    · rw [if_pos c16] at H
                      have c16b0 : ((bt a0 x5_2) == 95) = true := beq_iff_eq.mpr c16
                      have c16b1 : ((bt a0 x5_2) != 95) = false := bne_eq_false_iff_eq.mpr c16
                      clear c16
                      have H' := Aside0.mk H
                      clear H
                      have p8 : 0 ≤ (x5_2 : Int) := of_decide_eq_true (by first | (with_reducible assumption) | assumption)
                      have q8 : x5_2 < (a0.size : Int) := of_decide_eq_true (by first | (with_reducible assumption) | assumption)
                      have hx8 := bt_at a0 x5_2
                      replace p8 := eq_true p8
                      replace q8 := eq_true q8
                      go_wp2
                      go_roundg k2
                      case measure => have := HJ2.out; have := HK2.out; omega
                      case rel => exact ⟨(wrap64 (x5_2 + 1)), (by first | rfl | (simp; done) | (simp [*]; done)), H', ⟨by have := HJ2.out; have := HK2.out; omega⟩, by repeat (first | exact Drawn0.refl _ | apply Drawn0.step)⟩
                    · rw [if_neg c16] at H
                      have c16b0 : ((bt a0 x5_2) == 95) = false := beq_eq_false_iff_ne.mpr c16
                      have c16b1 : ((bt a0 x5_2) != 95) = true := bne_iff_ne.mpr c16
                      by_cases c17 : (bt a0 x5_2) < 48
                      · rw [if_pos c17] at H
                        have c17b0 : decide ((bt a0 x5_2) < 48) = true := decide_eq_true c17
                        clear c17
                        obtain rfl := Option.some.inj H
                        have p8 : 0 ≤ (x5_2 : Int) := of_decide_eq_true (by first | (with_reducible assumption) | assumption)
                        have q8 : x5_2 < (a0.size : Int) := of_decide_eq_true (by first | (with_reducible assumption) | assumption)
                        have hx8 := bt_at a0 x5_2
                        replace p8 := eq_true p8
                        replace q8 := eq_true q8
                        go_wp2
                        go_ret
                        exact ⟨by first | rfl | (simp; done) | (simp [*]; done), by repeat (first | exact Drawn0.refl _ | apply Drawn0.step)⟩
                      · rw [if_neg c17] at H
                        have c17b0 : decide ((bt a0 x5_2) < 48) = false := decide_eq_false c17
                        clear c17
                        by_cases c18 : (bt a0 x5_2) > 57
                        · rw [if_pos c18] at H
                          have c18b0 : decide (57 < (bt a0 x5_2)) = true := decide_eq_true c18
                          clear c18
                          obtain rfl := Option.some.inj H
                          have p8 : 0 ≤ (x5_2 : Int) := of_decide_eq_true (by first | (with_reducible assumption) | assumption)
                          have q8 : x5_2 < (a0.size : Int) := of_decide_eq_true (by first | (with_reducible assumption) | assumption)
                          have hx8 := bt_at a0 x5_2
                          replace p8 := eq_true p8
                          replace q8 := eq_true q8
                          go_wp2
                          go_ret
                          exact ⟨by first | rfl | (simp; done) | (simp [*]; done), by repeat (first | exact Drawn0.refl _ | apply Drawn0.step)⟩
                        · rw [if_neg c18] at H
                          have c18b0 : decide (57 < (bt a0 x5_2)) = false := decide_eq_false c18
                          clear c18
                          have H' := Aside0.mk H
                          clear H
                          have p8 : 0 ≤ (x5_2 : Int) := of_decide_eq_true (by first | (with_reducible assumption) | assumption)
                          have q8 : x5_2 < (a0.size : Int) := of_decide_eq_true (by first | (with_reducible assumption) | assumption)
                          have hx8 := bt_at a0 x5_2
                          replace p8 := eq_true p8
                          replace q8 := eq_true q8
                          go_wp2
                          go_roundg k2
                          case measure => have := HJ2.out; have := HK2.out; omega
                          case rel => exact ⟨(wrap64 (x5_2 + 1)), (by first | rfl | (simp; done) | (simp [*]; done)), H', ⟨by have := HJ2.out; have := HK2.out; omega⟩, by repeat (first | exact Drawn0.refl _ | apply Drawn0.step)⟩
              · rw [if_neg c7] at H
                exact absurd H (by simp)
            · rw [if_neg c6] at H
              have c6b0 : decide (x5_2 < (a0.size : Int)) = false := decide_eq_false c6
              clear c6
              obtain rfl := Option.some.inj H
              go_wp2
              go_ret
              exact ⟨by first | rfl | (simp; done) | (simp [*]; done), by repeat (first | exact Drawn0.refl _ | apply Drawn0.step)⟩

/-! ### gramaryeref02_Word: function 25 -/
def gramaryeref02_Word.f (k : Nat) (a0 : ByteArray) : Option (Bool) := (gramaryeref02_letters.f k a0 97).bind fun t122 => (some t122)
theorem gramaryeref02_Word.mono : ∀ a0 k, LeO (gramaryeref02_Word.f k a0) (gramaryeref02_Word.f (k + 1) a0) := by
  intro a0 k
  unfold gramaryeref02_Word.f
  repeat' first
      | (with_reducible exact gramaryeref02_letters.mono _ _ _)
      | (with_reducible exact LeO.refl _)
      | (with_reducible exact LeO.none _)
      | (with_reducible refine LeO.ite ?_ ?_)
      | (with_reducible refine LeO.bind ?_ (fun _ => ?_))
      | exact gramaryeref02_letters.mono _ _ _
      | exact LeO.none _
      | refine LeO.ite ?_ ?_
      | refine LeO.bind ?_ (fun _ => ?_)
set_option maxHeartbeats 8000000 in
set_option maxRecDepth 100000 in
theorem gramaryeref02_Word.calls (k : Nat) (a0 : ByteArray) (r : Bool) (w : World) (h : gramaryeref02_Word.f k a0 = some r) :
    Calls Tryd.prog 25 #[.string a0] w fun e w' => e = .returned (.bool r) ∧ Drawn0 w w' := by
  have H : ((gramaryeref02_letters.f k a0 97).bind fun t122 => (some t122)) = some r := h
  clear h
  replace H := Option.bind_eq_some_iff.mp H
  obtain ⟨t122, A20, H⟩ := H
  replace H : (some t122) = some r := H
  have A2 := Aside0.mk A20
  clear A20
  obtain rfl := Option.some.inj H
  go_enter Tryd.func25, Tryd.ntmps25
  go_wp2_with (first | ((with_reducible refine gate_callee (f := 31) rfl ?_); refine goesL_ (some 4) rfl rfl Tryd.func31 (by kernel_rfl) rfl #[.string a0, .int .u8 97] rfl (by (try simp only [List.map_toArray, List.map_cons, List.map_nil]); first | done | rfl | (simp only [List.length_drop, List.length_take]; rfl)) ?_; (with_reducible refine (gramaryeref02_letters.calls k a0 97 t122 _ A2.out).mono ?_); rintro e w' ⟨rfl, ⟨nd, rfl⟩⟩; refine ⟨_, rfl, ?_⟩))
  go_ret
  exact ⟨by first | rfl | (simp; done) | (simp [*]; done), by repeat (first | exact Drawn0.refl _ | apply Drawn0.step)⟩

/-! ### gramaryeref02_Keyword: function 26 -/
def gramaryeref02_Keyword.f (a0 : ByteArray) : Option (Bool) := if a0.toList = ([103, 114, 97, 109, 109, 97, 114] : List UInt8) then (some true) else (if a0.toList = ([108, 111, 111, 107] : List UInt8) then (some true) else (if a0.toList = ([115, 121, 110, 99] : List UInt8) then (some true) else (some (a0.toList == ([116, 111, 107, 101, 110] : List UInt8)))))
set_option maxHeartbeats 8000000 in
set_option maxRecDepth 100000 in
theorem gramaryeref02_Keyword.calls (a0 : ByteArray) (r : Bool) (w : World) (h : gramaryeref02_Keyword.f a0 = some r) :
    Calls Tryd.prog 26 #[.string a0] w fun e w' => e = .returned (.bool r) ∧ Drawn0 w w' := by
  have H : (if a0.toList = ([103, 114, 97, 109, 109, 97, 114] : List UInt8) then (some true) else (if a0.toList = ([108, 111, 111, 107] : List UInt8) then (some true) else (if a0.toList = ([115, 121, 110, 99] : List UInt8) then (some true) else (some (a0.toList == ([116, 111, 107, 101, 110] : List UInt8)))))) = some r := h
  clear h
  by_cases c2 : a0.toList = ([103, 114, 97, 109, 109, 97, 114] : List UInt8)
  · rw [if_pos c2] at H
    have c2b0 : (a0.toList == ([103, 114, 97, 109, 109, 97, 114] : List UInt8)) = true := beq_iff_eq.mpr c2
    have c2b1 : (a0.toList != ([103, 114, 97, 109, 109, 97, 114] : List UInt8)) = false := bne_eq_false_iff_eq.mpr c2
    clear c2
    obtain rfl := Option.some.inj H
    go_enter Tryd.func26, Tryd.ntmps26
    go_wp2
    go_ret
    exact ⟨by first | rfl | (simp; done) | (simp [*]; done), by repeat (first | exact Drawn0.refl _ | apply Drawn0.step)⟩
  · rw [if_neg c2] at H
    have c2b0 : (a0.toList == ([103, 114, 97, 109, 109, 97, 114] : List UInt8)) = false := beq_eq_false_iff_ne.mpr c2
    have c2b1 : (a0.toList != ([103, 114, 97, 109, 109, 97, 114] : List UInt8)) = true := bne_iff_ne.mpr c2
    by_cases c3 : a0.toList = ([108, 111, 111, 107] : List UInt8)
    · rw [if_pos c3] at H
      have c3b0 : (a0.toList == ([108, 111, 111, 107] : List UInt8)) = true := beq_iff_eq.mpr c3
      have c3b1 : (a0.toList != ([108, 111, 111, 107] : List UInt8)) = false := bne_eq_false_iff_eq.mpr c3
      clear c3
      obtain rfl := Option.some.inj H
      go_enter Tryd.func26, Tryd.ntmps26
      go_wp2
      go_ret
      exact ⟨by first | rfl | (simp; done) | (simp [*]; done), by repeat (first | exact Drawn0.refl _ | apply Drawn0.step)⟩
    · rw [if_neg c3] at H
      have c3b0 : (a0.toList == ([108, 111, 111, 107] : List UInt8)) = false := beq_eq_false_iff_ne.mpr c3
      have c3b1 : (a0.toList != ([108, 111, 111, 107] : List UInt8)) = true := bne_iff_ne.mpr c3
      by_cases c4 : a0.toList = ([115, 121, 110, 99] : List UInt8)
      · rw [if_pos c4] at H
        have c4b0 : (a0.toList == ([115, 121, 110, 99] : List UInt8)) = true := beq_iff_eq.mpr c4
        have c4b1 : (a0.toList != ([115, 121, 110, 99] : List UInt8)) = false := bne_eq_false_iff_eq.mpr c4
        clear c4
        obtain rfl := Option.some.inj H
        go_enter Tryd.func26, Tryd.ntmps26
        go_wp2
        go_ret
        exact ⟨by first | rfl | (simp; done) | (simp [*]; done), by repeat (first | exact Drawn0.refl _ | apply Drawn0.step)⟩
      · rw [if_neg c4] at H
        have c4b0 : (a0.toList == ([115, 121, 110, 99] : List UInt8)) = false := beq_eq_false_iff_ne.mpr c4
        have c4b1 : (a0.toList != ([115, 121, 110, 99] : List UInt8)) = true := bne_iff_ne.mpr c4
        obtain rfl := Option.some.inj H
        go_enter Tryd.func26, Tryd.ntmps26
        go_wp2
        go_ret
        exact ⟨by first | rfl | (simp; done) | (simp [*]; done), by repeat (first | exact Drawn0.refl _ | apply Drawn0.step)⟩

/-! ### gramaryeref02_Name: function 19 -/
def gramaryeref02_Name.f (k : Nat) (a0 : ByteArray) : Option (Bool) := (gramaryeref02_Word.f k a0).bind fun t123 => (if t123 = true then ((gramaryeref02_Keyword.f a0).bind fun t124 => (some (!t124))) else (some false))
theorem gramaryeref02_Name.mono : ∀ a0 k, LeO (gramaryeref02_Name.f k a0) (gramaryeref02_Name.f (k + 1) a0) := by
  intro a0 k
  unfold gramaryeref02_Name.f
  repeat' first
      | (with_reducible exact gramaryeref02_Word.mono _ _)
      | (with_reducible exact LeO.refl _)
      | (with_reducible exact LeO.none _)
      | (with_reducible refine LeO.ite ?_ ?_)
      | (with_reducible refine LeO.bind ?_ (fun _ => ?_))
      | exact gramaryeref02_Word.mono _ _
      | exact LeO.none _
      | refine LeO.ite ?_ ?_
      | refine LeO.bind ?_ (fun _ => ?_)
set_option maxHeartbeats 8000000 in
set_option maxRecDepth 100000 in
theorem gramaryeref02_Name.calls (k : Nat) (a0 : ByteArray) (r : Bool) (w : World) (h : gramaryeref02_Name.f k a0 = some r) :
    Calls Tryd.prog 19 #[.string a0] w fun e w' => e = .returned (.bool r) ∧ Drawn0 w w' := by
  have H : ((gramaryeref02_Word.f k a0).bind fun t123 => (if t123 = true then ((gramaryeref02_Keyword.f a0).bind fun t124 => (some (!t124))) else (some false))) = some r := h
  clear h
  replace H := Option.bind_eq_some_iff.mp H
  obtain ⟨t123, A20, H⟩ := H
  replace H : (if t123 = true then ((gramaryeref02_Keyword.f a0).bind fun t124 => (some (!t124))) else (some false)) = some r := H
  have A2 := Aside0.mk A20
  clear A20
  by_cases c3 : t123 = true
  · subst c3
    have H1 : ((gramaryeref02_Keyword.f a0).bind fun t124 => (some (!t124))) = some r := by rw [if_pos rfl] at H; exact H
    clear H
    have H := H1
    clear H1
    replace H := Option.bind_eq_some_iff.mp H
    obtain ⟨t124, A40, H⟩ := H
    replace H : (some (!t124)) = some r := H
    have A4 := Aside0.mk A40
    clear A40
    obtain rfl := Option.some.inj H
    go_enter Tryd.func19, Tryd.ntmps19
    go_wp2_with (first | ((with_reducible refine gate_callee (f := 25) rfl ?_); refine goesL_ (some 4) rfl rfl Tryd.func25 (by kernel_rfl) rfl #[.string a0] rfl (by (try simp only [List.map_toArray, List.map_cons, List.map_nil]); first | done | rfl | (simp only [List.length_drop, List.length_take]; rfl)) ?_; (with_reducible refine (gramaryeref02_Word.calls k a0 true _ A2.out).mono ?_); rintro e w' ⟨rfl, ⟨nd, rfl⟩⟩; refine ⟨_, rfl, ?_⟩) | (go_at_call 26; (with_reducible refine (gramaryeref02_Keyword.calls a0 t124 _ A4.out).mono ?_); rintro e w' ⟨rfl, ⟨nd, rfl⟩⟩))
    go_ret
    exact ⟨by first | rfl | (simp; done) | (simp [*]; done), by repeat (first | exact Drawn0.refl _ | apply Drawn0.step)⟩
  · replace c3 := Bool.eq_false_iff.mpr c3
    subst c3
    have H1 : (some false) = some r := by rw [if_neg (show ¬ (false = true) by decide)] at H; exact H
    clear H
    have H := H1
    clear H1
    obtain rfl := Option.some.inj H
    go_enter Tryd.func19, Tryd.ntmps19
    go_wp2_with (first | ((with_reducible refine gate_callee (f := 25) rfl ?_); refine goesL_ (some 4) rfl rfl Tryd.func25 (by kernel_rfl) rfl #[.string a0] rfl (by (try simp only [List.map_toArray, List.map_cons, List.map_nil]); first | done | rfl | (simp only [List.length_drop, List.length_take]; rfl)) ?_; (with_reducible refine (gramaryeref02_Word.calls k a0 false _ A2.out).mono ?_); rintro e w' ⟨rfl, ⟨nd, rfl⟩⟩; refine ⟨_, rfl, ?_⟩))
    go_ret
    exact ⟨by first | rfl | (simp; done) | (simp [*]; done), by repeat (first | exact Drawn0.refl _ | apply Drawn0.step)⟩

end Go.Proofs.YthpiofcjckmifaaDoor.MWordBack
