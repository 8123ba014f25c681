-- A text of this claim (written by this repo's wip/myprint.py).
import Derived.Test.YthpiofcjckmifaaDoorMWordTellsx0
import Derived.Test.YthpiofcjckmifaaDoorMWordTellsx1
import Derived.Test.YthpiofcjckmifaaDoorMWordTellsx2
namespace Go.Proofs.YthpiofcjckmifaaDoor.MWordTells
open Go.RowKit Go.Proofs.YthpiofcjckmifaaDoorW.PrintWords Go.Proofs.YthpiofcjckmifaaDoorW.PrintLast Go.Proofs.YthpiofcjckmifaaDoorW.PrintMore Go.Proofs.YthpiofcjckmifaaDoor.Fun Go.Proofs.YthpiofcjckmifaaDoor.Glob
attribute [local go_sem] max2_int min2_int max_two min_two max_three min_three max_four min_four   -- for this text's walks alone
set_option linter.unusedVariables false
set_option linter.unusedSimpArgs false

/-! ### name_rest: function 33 -/
def name_rest.f (a0 : Int) : Option (Bool) := if a0 = 95 then (some true) else (if a0 ≥ 48 then (some (decide (a0 ≤ 57))) else (some false))
set_option maxHeartbeats 8000000 in
set_option maxRecDepth 100000 in
theorem name_rest.calls (a0 : Int) (r : Bool) (w : World) (h : name_rest.f a0 = some r) :
    Calls Tryd.prog 33 #[.int .u8 a0] w fun e w' => e = .returned (.bool r) ∧ Drawn0 w w' := by
  have H : (if a0 = 95 then (some true) else (if a0 ≥ 48 then (some (decide (a0 ≤ 57))) else (some false))) = some r := h
  clear h
  by_cases c2 : a0 = 95
  · rw [if_pos c2] at H
    have c2b0 : (a0 == 95) = true := beq_iff_eq.mpr c2
    have c2b1 : (a0 != 95) = false := bne_eq_false_iff_eq.mpr c2
    clear c2
    obtain rfl := Option.some.inj H
    go_enter Tryd.func33, Tryd.ntmps33
    go_wp2
    go_ret
    exact ⟨by first | rfl | (simp; done) | (simp [*]; done), by repeat (first | exact Drawn0.refl _ | apply Drawn0.step)⟩
  · rw [if_neg c2] at H
    have c2b0 : (a0 == 95) = false := beq_eq_false_iff_ne.mpr c2
    have c2b1 : (a0 != 95) = true := bne_iff_ne.mpr c2
    by_cases c3 : a0 ≥ 48
    · rw [if_pos c3] at H
      have c3b0 : decide (48 ≤ a0) = true := decide_eq_true c3
      clear c3
      obtain rfl := Option.some.inj H
      go_enter Tryd.func33, Tryd.ntmps33
      go_wp2
      go_ret
      exact ⟨by first | rfl | (simp; done) | (simp [*]; done), by repeat (first | exact Drawn0.refl _ | apply Drawn0.step)⟩
    · rw [if_neg c3] at H
      have c3b0 : decide (48 ≤ a0) = false := decide_eq_false c3
      clear c3
      obtain rfl := Option.some.inj H
      go_enter Tryd.func33, Tryd.ntmps33
      go_wp2
      go_ret
      exact ⟨by first | rfl | (simp; done) | (simp [*]; done), by repeat (first | exact Drawn0.refl _ | apply Drawn0.step)⟩

/-! ### name_spelt: function 28 -/
def name_restB (c : Int) : Bool := decide (c = 95 ∨ (48 ≤ c ∧ c ≤ 57))
theorem name_rest_is (c : Int) : name_rest.f c = some (name_restB c) := by
  unfold name_rest.f name_restB
  by_cases h1 : c = 95
  · simp [h1]
  · by_cases h2 : 48 ≤ c <;> simp [h1, h2]
/-- Is a text spelt with such letters? -/
def name_speltB (p : Int → Bool) (s : ByteArray) : Bool :=
  decide (1 ≤ s.size ∧ s.size ≤ 20) && (p (bt s 0) && (List.range s.size).all fun i => p (bt s (i : Nat)) || name_restB (bt s (i : Nat)))
def PredU8 (P : Program) (g : Nat) (p : Int → Bool) : Prop := ∀ (W : World) (c : Int), 0 ≤ c → c ≤ 255 → Calls P g #[.int .u8 c] W fun e w' => e = .returned (.bool (p c)) ∧ Drawn0 W w'
set_option maxHeartbeats 4000000 in
theorem name_spelt_calls (s : ByteArray) (g : Nat) (p : Int → Bool) (w : World)
    (eg : ∀ args w, (callFunc g args).run Tryd.prog w = .ok (.enter g args) w) (hp : PredU8 Tryd.prog g p) :
    Calls Tryd.prog 28 #[.string s, .func (.func g) #[] #[]] w fun e w' => e = .returned (.bool (name_speltB p s)) ∧ Drawn0 w w' := by
  have HP := Aside0.mk (fun (c : Int) (h0 : 0 ≤ c) (h1 : c ≤ 255) (W : World) => hp W c h0 h1)
  have HR := Aside0.mk (fun (c : Int) (W : World) => name_rest.calls c _ W (name_rest_is c))
  clear hp
  by_cases c1 : s.size = 0
  · have e : name_speltB p s = false := by unfold name_speltB; simp [c1]
    rw [e]
    have c1b : ((s.size : Int) == 0) = true := beq_iff_eq.2 (by omega)
    clear c1 e
    go_enter Tryd.func28, Tryd.ntmps28
    go_wp2_with fail
    go_ret
    exact ⟨rfl, Drawn0.refl _⟩
  · have c1b : ((s.size : Int) == 0) = false := beq_eq_false_iff_ne.2 (by omega)
    by_cases c2 : 20 < s.size
    · have e : name_speltB p s = false := by unfold name_speltB; rw [decide_eq_false (by omega)]; rfl
      rw [e]
      have c2b : decide (20 < (s.size : Int)) = true := decide_eq_true (by omega)
      have c2c : decide (20 < s.size) = true := decide_eq_true (by omega)
      clear c1 c2 e
      go_enter Tryd.func28, Tryd.ntmps28
      go_wp2_with fail
      go_ret
      exact ⟨rfl, Drawn0.refl _⟩
    · have c2b : decide (20 < (s.size : Int)) = false := decide_eq_false (by omega)
      have c2c : decide (20 < s.size) = false := decide_eq_false (by omega)
      have hz : decide (1 ≤ s.size ∧ s.size ≤ 20) = true := decide_eq_true (by omega)
      have q0 : (0 < s.size) = True := eq_true (by omega)
      have hx0 : ∀ h : 0 < s.size, ((s[0]'h).toNat : Int) = bt s 0 := bt_at s 0
      have hr0 := bt_range s 0
      have HP0 := Aside0.mk (HP.out (bt s 0) hr0.1 hr0.2)
      have E : name_speltB p s = (p (bt s 0) && (List.range s.size).all fun i => p (bt s (i : Nat)) || name_restB (bt s (i : Nat))) := by unfold name_speltB; rw [hz]; rfl
      rw [E]
      have hsz20 : s.size ≤ 20 := by omega
      have hpos : 0 < s.size := by omega
      generalize p (bt s 0) = q at HP0
      clear E hz hr0 c1 c2
      go_enter Tryd.func28, Tryd.ntmps28
      go_wp2_with fail
      refine (HP0.out _).mono ?_
      rintro e wa ⟨rfl, ⟨na, rfl⟩⟩
      cases q with
      | false => go_wp2_with fail; go_ret; exact ⟨rfl, by repeat (first | exact Drawn0.refl _ | apply Drawn0.step)⟩
      | true =>
        clear q0 hx0
        go_wp2_with fail
        go_loopg [5, 23] s.size (fun gg v5 v23 wr => ∃ kk : Nat, kk + gg = s.size ∧ v23 = .int .i64 kk ∧ Aside0 (∀ j : Nat, j < kk → (p (bt s j) || name_restB (bt s j)) = true) ∧ Drawn0 w wr)
        case atStart => exact ⟨0, by omega, rfl, ⟨fun j hj => absurd hj (Nat.not_lt_zero _)⟩, by repeat (first | exact Drawn0.refl _ | apply Drawn0.step)⟩
        case round =>
          obtain ⟨kk, hkk, rfl, HA, ⟨nw, rfl⟩⟩ := hrel
          by_cases hlt : kk < s.size
          · have hl1 : (kk : Int) < (s.size : Int) := by omega
            have hx : ∀ h : kk < s.size, ((s[kk]'h).toNat : Int) = bt s (kk : Int) := fun h => bt_at s (kk : Int) (by simpa using h)
            have hr := bt_range s (kk : Int)
            have HPk := Aside0.mk (HP.out (bt s (kk : Int)) hr.1 hr.2)
            have HRk := Aside0.mk (HR.out (bt s (kk : Int)))
            have Hall : Aside0 (∀ j : Nat, j < kk + 1 → j ≠ kk → (p (bt s j) || name_restB (bt s j)) = true) := ⟨fun j hj hne => HA.out j (by omega)⟩
            have Hlt : Aside0 (kk < s.size) := ⟨hlt⟩
            generalize hqa : p (bt s (kk : Int)) = qa at HPk
            generalize hqb : name_restB (bt s (kk : Int)) = qb at HRk
            have HQ := Aside0.mk (And.intro hqa hqb)
            clear hqa hqb hr
            go_wp2_with fail
            refine (HPk.out _).mono ?_
            rintro e wb ⟨rfl, ⟨nb, rfl⟩⟩
            cases qa with
            | true =>
              go_wp2_with fail
              go_roundg (s.size - (kk + 1))
              case measure => omega
              case rel =>
                refine ⟨kk + 1, by omega, by go_num, ⟨fun j hj => ?_⟩, by repeat (first | exact Drawn0.refl _ | apply Drawn0.step)⟩
                by_cases e : j = kk
                · subst e; rw [HQ.out.1]; rfl
                · exact Hall.out j hj e
            | false =>
              go_wp2_with fail
              refine (HRk.out _).mono ?_
              rintro e wc ⟨rfl, ⟨nc, rfl⟩⟩
              cases qb with
              | true =>
                go_wp2_with fail
                go_roundg (s.size - (kk + 1))
                case measure => omega
                case rel =>
                  refine ⟨kk + 1, by omega, by go_num, ⟨fun j hj => ?_⟩, by repeat (first | exact Drawn0.refl _ | apply Drawn0.step)⟩
                  by_cases e : j = kk
                  · subst e; rw [HQ.out.2]; simp
                  · exact Hall.out j hj e
              | false =>
                go_wp2_with fail
                go_ret
                refine ⟨?_, by repeat (first | exact Drawn0.refl _ | apply Drawn0.step)⟩
                have : ((List.range s.size).all fun i => p (bt s (i : Nat)) || name_restB (bt s (i : Nat))) = false := by
                  rw [List.all_eq_false]
                  exact ⟨kk, by simpa using Hlt.out, by rw [HQ.out.1, HQ.out.2]; simp⟩
                rw [this]; rfl
          · have hl1 : ¬ (kk : Int) < (s.size : Int) := by omega
            have Hk : Aside0 (kk = s.size) := ⟨by omega⟩
            go_wp2_with fail
            go_ret
            refine ⟨?_, by repeat (first | exact Drawn0.refl _ | apply Drawn0.step)⟩
            have : ((List.range s.size).all fun i => p (bt s (i : Nat)) || name_restB (bt s (i : Nat))) = true := by
              rw [List.all_eq_true]
              intro j hj
              exact HA.out j (by have := Hk.out; simp at hj; omega)
            rw [this]; rfl



/-! ### name_small: function 29 -/
def name_small.f (a0 : Int) : Option (Bool) := if a0 ≥ 97 then (some (decide (a0 ≤ 122))) else (some false)
set_option maxHeartbeats 8000000 in
set_option maxRecDepth 100000 in
theorem name_small.calls (a0 : Int) (r : Bool) (w : World) (h : name_small.f a0 = some r) :
    Calls Tryd.prog 29 #[.int .u8 a0] w fun e w' => e = .returned (.bool r) ∧ Drawn0 w w' := by
  have H : (if a0 ≥ 97 then (some (decide (a0 ≤ 122))) else (some false)) = some r := h
  clear h
  by_cases c2 : a0 ≥ 97
  · rw [if_pos c2] at H
    have c2b0 : decide (97 ≤ a0) = true := decide_eq_true c2
    clear c2
    obtain rfl := Option.some.inj H
    go_enter Tryd.func29, Tryd.ntmps29
    go_wp2
    go_ret
    exact ⟨by first | rfl | (simp; done) | (simp [*]; done), by repeat (first | exact Drawn0.refl _ | apply Drawn0.step)⟩
  · rw [if_neg c2] at H
    have c2b0 : decide (97 ≤ a0) = false := decide_eq_false c2
    clear c2
    obtain rfl := Option.some.inj H
    go_enter Tryd.func29, Tryd.ntmps29
    go_wp2
    go_ret
    exact ⟨by first | rfl | (simp; done) | (simp [*]; done), by repeat (first | exact Drawn0.refl _ | apply Drawn0.step)⟩

/-! ### name_Keyword: function 30 -/
def name_Keyword.f (a0 : ByteArray) : Option Bool := some (keyL.any fun s => s.toList == a0.toList)
set_option maxHeartbeats 2000000 in
theorem name_Keyword.calls (a0 : ByteArray) (r : Bool) (w : World) (h : name_Keyword.f a0 = some r) (hG : GKey w := by first | assumption | (unfold GKey at *; repeat (first | assumption | apply Holds.drewN | apply Holds.drew | apply Holds.alloc | exact Holds.drawn (by assumption) (by assumption) | exact Holds.aside (by assumption) (by assumption)))) :
    Calls Tryd.prog 30 #[.string a0] w fun e w' => e = .returned (.bool r) ∧ Drawn0 w w' := by
  obtain rfl := Option.some.inj h
  clear h
  obtain ⟨t, fr, hg⟩ := hG.out
  have hin : (Tryd.prog.info? 35).map (·.size) = some 4 := by kernel_rfl
  have HIX := Aside0.mk (run_tab (P := Tryd.prog) 35 9 4 keyL rfl Tryd.underlying35 (fun _ => by kernel_rfl) (fun _ => by kernel_rfl))
  have HL : Aside0 (keyL.length = 4) := ⟨rfl⟩
  have hsz2 : (keyL.map Value.string).toArray.size = 4 := rfl
  generalize (keyL.map Value.string).toArray = cs at hg HIX hsz2
  go_enter Tryd.func30, Tryd.ntmps30
  go_wp2_with (refine wpList_load_row rfl 35 _ rfl 1 rfl t cs fr _ hg Tryd.underlying35 rfl (by rw [hsz2]; exact hin) ?_)
  clear hsz2
  go_loopg [6] 4 (fun gg v6 wr => ∃ kk : Nat, kk + gg = 4 ∧ v6 = .int .i64 kk ∧ wr = w ∧ Aside0 (∀ j (hj : j < keyL.length), j < kk → (keyL[j].toList == a0.toList) = false))
  case atStart => exact ⟨0, by omega, rfl, rfl, ⟨fun j _ hj => absurd hj (Nat.not_lt_zero _)⟩⟩
  case round =>
    obtain ⟨kk, hkk, rfl, rfl, HA⟩ := hrel
    by_cases hlt : kk < 4
    · have hl1 : (kk : Int) < 4 := by omega
      have hlr : kk < keyL.length := by rw [HL.out]; exact hlt
      have hi := HIX.out kk hlr wr
      generalize hs : keyL[kk]'hlr = s at hi
      have HS := Aside0.mk hs
      clear hs
      by_cases hq : s.toList = a0.toList
      · have hq1 : (s.toList == a0.toList) = true := beq_iff_eq.2 hq
        have hfin : (keyL.any fun s => s.toList == a0.toList) = true := List.any_eq_true.2 ⟨_, List.getElem_mem hlr, by rw [HS.out]; exact hq1⟩
        have HF := Aside0.mk hfin
        clear hfin hq
        go_wp2_with fail
        go_ret
        exact ⟨by rw [HF.out]; rfl, Drawn0.refl _⟩
      · have hq1 : (s.toList == a0.toList) = false := beq_eq_false_iff_ne.2 hq
        clear hq
        go_wp2_with fail
        go_roundg (4 - (kk + 1))
        case measure => omega
        case rel =>
          refine ⟨kk + 1, by omega, by go_num, rfl, ⟨fun j hj hjk => ?_⟩⟩
          by_cases e : j = kk
          · subst e; rw [HS.out]; exact hq1
          · exact HA.out j hj (by omega)
    · have hl1 : ¬ (kk : Int) < 4 := by omega
      have hfin : (keyL.any fun s => s.toList == a0.toList) = false := by
        rw [List.any_eq_false]
        intro x hx
        obtain ⟨j, hj, rfl⟩ := List.getElem_of_mem hx
        have := HL.out
        simp [HA.out j hj (by omega)]
      have HF := Aside0.mk hfin
      clear hfin
      go_wp2_with fail
      go_ret
      exact ⟨by rw [HF.out]; rfl, Drawn0.refl _⟩


/-! ### name_Name: function 24 -/
def name_smallB (c : Int) : Bool := decide (97 ≤ c ∧ c ≤ 122)
theorem name_small_pred : PredU8 Tryd.prog 29 name_smallB := by
  intro W c h0 h1
  refine name_small.calls c _ W ?_
  unfold name_small.f name_smallB
  by_cases h2 : 97 ≤ c <;> simp [h2]

def name_Name.f (a0 : ByteArray) : Option Bool := some (name_speltB name_smallB a0 && !(keyL.any fun s => s.toList == a0.toList))
set_option maxHeartbeats 2000000 in
theorem name_Name.calls (a0 : ByteArray) (r : Bool) (w : World) (h : name_Name.f a0 = some r) (hG : GKey w := by first | assumption | (unfold GKey at *; repeat (first | assumption | apply Holds.drewN | apply Holds.drew | apply Holds.alloc | exact Holds.drawn (by assumption) (by assumption) | exact Holds.aside (by assumption) (by assumption)))) :
    Calls Tryd.prog 24 #[.string a0] w fun e w' => e = .returned (.bool r) ∧ Drawn0 w w' := by
  obtain rfl := Option.some.inj h
  clear h
  have H1 := Aside0.mk (name_spelt_calls a0 29 name_smallB w (fun args w => enters_ Tryd.func29 (by kernel_rfl) rfl args w) name_small_pred)
  have H2 := Aside0.mk (fun (n : Nat) => name_Keyword.calls a0 _ (w.drewN n) rfl (hG.drewN n))
  clear hG
  generalize name_speltB name_smallB a0 = q1 at H1
  generalize (keyL.any fun s => s.toList == a0.toList) = q2 at H2
  go_enter Tryd.func24, Tryd.ntmps24
  go_wp2_with fail
  refine H1.out.mono ?_
  rintro e wa ⟨rfl, ⟨na, rfl⟩⟩
  cases q1 with
  | false => go_wp2_with fail; go_ret; exact ⟨rfl, by repeat (first | exact Drawn0.refl _ | apply Drawn0.step)⟩
  | true =>
    go_wp2_with fail
    refine (H2.out _).mono ?_
    rintro e wb ⟨rfl, ⟨nb, rfl⟩⟩
    go_wp2_with fail
    go_ret
    exact ⟨by simp, by repeat (first | exact Drawn0.refl _ | apply Drawn0.step)⟩


/-! ### word_Rule: function 15 -/
def word_Rule.f (a0 : ByteArray) : Option (ByteArray × Bool) := (strings_CutPrefix.f a0 (⟨#[114, 117, 108, 101, 95]⟩ : ByteArray)).bind fun bt121 => (if bt121.2 = true then ((name_Name.f bt121.1).bind fun t123 => (if t123 = true then (some (bt121.1, true)) else (some ((⟨#[]⟩ : ByteArray), false)))) else (some ((⟨#[]⟩ : ByteArray), false)))
set_option maxHeartbeats 8000000 in
set_option maxRecDepth 100000 in
theorem word_Rule.calls (a0 : ByteArray) (r1 : ByteArray) (r2 : Bool) (w : World) (h : word_Rule.f a0 = some (r1, r2)) (hGGKey : GKey w := by first | assumption | (unfold GKey at *; repeat (first | assumption | apply Holds.drewN | apply Holds.drew | apply Holds.alloc | exact Holds.drawn (by assumption) (by assumption) | exact Holds.aside (by assumption) (by assumption)))) :
    Calls Tryd.prog 15 #[.string a0] w fun e w' => e = .returned (.tuple #[.string r1, .bool r2]) ∧ Drawn0 w w' := by
  have H : ((strings_CutPrefix.f a0 (⟨#[114, 117, 108, 101, 95]⟩ : ByteArray)).bind fun bt121 => (if bt121.2 = true then ((name_Name.f bt121.1).bind fun t123 => (if t123 = true then (some (bt121.1, true)) else (some ((⟨#[]⟩ : ByteArray), false)))) else (some ((⟨#[]⟩ : ByteArray), false)))) = some (r1, r2) := h
  clear h
  replace H := Option.bind_eq_some_iff.mp H
  obtain ⟨⟨t121, t122⟩, A20, H⟩ := H
  replace H : (if t122 = true then ((name_Name.f t121).bind fun t123 => (if t123 = true then (some (t121, true)) else (some ((⟨#[]⟩ : ByteArray), false)))) else (some ((⟨#[]⟩ : ByteArray), false))) = some (r1, r2) := H
  have A2 := Aside0.mk A20
  clear A20
  by_cases c3 : t122 = true
  · subst c3
    have H1 : ((name_Name.f t121).bind fun t123 => (if t123 = true then (some (t121, true)) else (some ((⟨#[]⟩ : ByteArray), false)))) = some (r1, r2) := by rw [if_pos rfl] at H; exact H
    clear H
    have H := H1
    clear H1
    replace H := Option.bind_eq_some_iff.mp H
    obtain ⟨t123, A40, H⟩ := H
    replace H : (if t123 = true then (some (t121, true)) else (some ((⟨#[]⟩ : ByteArray), false))) = some (r1, r2) := H
    have A4 := Aside0.mk A40
    clear A40
    by_cases c5 : t123 = true
    · subst c5
      have H1 : (some (t121, true)) = some (r1, r2) := by rw [if_pos rfl] at H; exact H
      clear H
      have H := H1
      clear H1
      simp only [Option.some.injEq, Prod.mk.injEq] at H
      obtain ⟨rfl, rfl⟩ := H
      go_enter Tryd.func15, Tryd.ntmps15
      go_wp2_with (first | ((with_reducible refine gate_callee (f := 20) rfl ?_); refine goesL_ (some 8) rfl rfl Tryd.func20 (by kernel_rfl) rfl #[.string a0, .string (⟨#[114, 117, 108, 101, 95]⟩ : ByteArray)] rfl (by (try simp only [List.map_toArray, List.map_cons, List.map_nil]); first | done | rfl | (simp only [List.length_drop, List.length_take]; rfl)) ?_; (with_reducible refine (strings_CutPrefix.calls a0 (⟨#[114, 117, 108, 101, 95]⟩ : ByteArray) t121 true _ A2.out).mono ?_); rintro e w' ⟨rfl, ⟨nd, rfl⟩⟩; refine ⟨_, rfl, ?_⟩) | (go_at_call 24; (with_reducible refine (name_Name.calls t121 true _ A4.out).mono ?_); rintro e w' ⟨rfl, ⟨nd, rfl⟩⟩))
      go_ret2
      exact ⟨by first | rfl | (simp; done) | (simp [*]; done), by repeat (first | exact Drawn0.refl _ | apply Drawn0.step)⟩
    · replace c5 := Bool.eq_false_iff.mpr c5
      subst c5
      have H1 : (some ((⟨#[]⟩ : ByteArray), false)) = some (r1, r2) := by rw [if_neg (show ¬ (false = true) by decide)] at H; exact H
      clear H
      have H := H1
      clear H1
      simp only [Option.some.injEq, Prod.mk.injEq] at H
      obtain ⟨rfl, rfl⟩ := H
      go_enter Tryd.func15, Tryd.ntmps15
      go_wp2_with (first | ((with_reducible refine gate_callee (f := 20) rfl ?_); refine goesL_ (some 8) rfl rfl Tryd.func20 (by kernel_rfl) rfl #[.string a0, .string (⟨#[114, 117, 108, 101, 95]⟩ : ByteArray)] rfl (by (try simp only [List.map_toArray, List.map_cons, List.map_nil]); first | done | rfl | (simp only [List.length_drop, List.length_take]; rfl)) ?_; (with_reducible refine (strings_CutPrefix.calls a0 (⟨#[114, 117, 108, 101, 95]⟩ : ByteArray) t121 true _ A2.out).mono ?_); rintro e w' ⟨rfl, ⟨nd, rfl⟩⟩; refine ⟨_, rfl, ?_⟩) | (go_at_call 24; (with_reducible refine (name_Name.calls t121 false _ A4.out).mono ?_); rintro e w' ⟨rfl, ⟨nd, rfl⟩⟩))
      go_ret2
      exact ⟨by first | rfl | (simp; done) | (simp [*]; done), by repeat (first | exact Drawn0.refl _ | apply Drawn0.step)⟩
  · replace c3 := Bool.eq_false_iff.mpr c3
    subst c3
    have H1 : (some ((⟨#[]⟩ : ByteArray), false)) = some (r1, r2) := by rw [if_neg (show ¬ (false = true) by decide)] at H; exact H
    clear H
    have H := H1
    clear H1
    simp only [Option.some.injEq, Prod.mk.injEq] at H
    obtain ⟨rfl, rfl⟩ := H
    go_enter Tryd.func15, Tryd.ntmps15
    go_wp2_with (first | ((with_reducible refine gate_callee (f := 20) rfl ?_); refine goesL_ (some 8) rfl rfl Tryd.func20 (by kernel_rfl) rfl #[.string a0, .string (⟨#[114, 117, 108, 101, 95]⟩ : ByteArray)] rfl (by (try simp only [List.map_toArray, List.map_cons, List.map_nil]); first | done | rfl | (simp only [List.length_drop, List.length_take]; rfl)) ?_; (with_reducible refine (strings_CutPrefix.calls a0 (⟨#[114, 117, 108, 101, 95]⟩ : ByteArray) t121 false _ A2.out).mono ?_); rintro e w' ⟨rfl, ⟨nd, rfl⟩⟩; refine ⟨_, rfl, ?_⟩))
    go_ret2
    exact ⟨by first | rfl | (simp; done) | (simp [*]; done), by repeat (first | exact Drawn0.refl _ | apply Drawn0.step)⟩

/-! ### word_Of: function 17 -/
def word_Of.f (a0 : ByteArray) : Option (ByteArray) := (name_Name.f a0).bind fun t124 => (if t124 = true then (if 5 + a0.size ≤ 9223372036854775807 then (some ((⟨#[114, 117, 108, 101, 95]⟩ : ByteArray) ++ a0)) else (none)) else (some (⟨#[]⟩ : ByteArray)))
set_option maxHeartbeats 8000000 in
set_option maxRecDepth 100000 in
theorem word_Of.calls (a0 : ByteArray) (r : ByteArray) (w : World) (h : word_Of.f a0 = some r) (hGGKey : GKey w := by first | assumption | (unfold GKey at *; repeat (first | assumption | apply Holds.drewN | apply Holds.drew | apply Holds.alloc | exact Holds.drawn (by assumption) (by assumption) | exact Holds.aside (by assumption) (by assumption)))) :
    Calls Tryd.prog 17 #[.string a0] w fun e w' => e = .returned (.string r) ∧ Drawn0 w w' := by
  have H : ((name_Name.f a0).bind fun t124 => (if t124 = true then (if 5 + a0.size ≤ 9223372036854775807 then (some ((⟨#[114, 117, 108, 101, 95]⟩ : ByteArray) ++ a0)) else (none)) else (some (⟨#[]⟩ : ByteArray)))) = some r := h
  clear h
  replace H := Option.bind_eq_some_iff.mp H
  obtain ⟨t124, A20, H⟩ := H
  replace H : (if t124 = true then (if 5 + a0.size ≤ 9223372036854775807 then (some ((⟨#[114, 117, 108, 101, 95]⟩ : ByteArray) ++ a0)) else (none)) else (some (⟨#[]⟩ : ByteArray))) = some r := H
  have A2 := Aside0.mk A20
  clear A20
  by_cases c3 : t124 = true
  · subst c3
    have H1 : (if 5 + a0.size ≤ 9223372036854775807 then (some ((⟨#[114, 117, 108, 101, 95]⟩ : ByteArray) ++ a0)) else (none)) = some r := by rw [if_pos rfl] at H; exact H
    clear H
    have H := H1
    clear H1
    by_cases c4 : 5 + a0.size ≤ 9223372036854775807
    · rw [if_pos c4] at H
      have c4b0 := eq_true c4
      have c4b1 : decide (5 + a0.size ≤ 9223372036854775807) = true := decide_eq_true c4
      try have c4b2 : (9223372036854775807 < 5 + a0.size) = False := eq_false (Nat.not_lt.2 c4)
      obtain rfl := Option.some.inj H
      go_enter Tryd.func17, Tryd.ntmps17
      go_wp2_with (first | ((with_reducible refine gate_callee (f := 24) rfl ?_); refine goesL_ (some 4) rfl rfl Tryd.func24 (by kernel_rfl) rfl #[.string a0] rfl (by (try simp only [List.map_toArray, List.map_cons, List.map_nil]); first | done | rfl | (simp only [List.length_drop, List.length_take]; rfl)) ?_; (with_reducible refine (name_Name.calls a0 true _ A2.out).mono ?_); rintro e w' ⟨rfl, ⟨nd, rfl⟩⟩; refine ⟨_, rfl, ?_⟩))
      go_ret
      exact ⟨by first | rfl | (simp; done) | (simp [*]; done), by repeat (first | exact Drawn0.refl _ | apply Drawn0.step)⟩
    · rw [if_neg c4] at H
      exact absurd H (by simp)
  · replace c3 := Bool.eq_false_iff.mpr c3
    subst c3
    have H1 : (some (⟨#[]⟩ : ByteArray)) = some r := by rw [if_neg (show ¬ (false = true) by decide)] at H; exact H
    clear H
    have H := H1
    clear H1
    obtain rfl := Option.some.inj H
    go_enter Tryd.func17, Tryd.ntmps17
    go_wp2_with (first | ((with_reducible refine gate_callee (f := 24) rfl ?_); refine goesL_ (some 4) rfl rfl Tryd.func24 (by kernel_rfl) rfl #[.string a0] rfl (by (try simp only [List.map_toArray, List.map_cons, List.map_nil]); first | done | rfl | (simp only [List.length_drop, List.length_take]; rfl)) ?_; (with_reducible refine (name_Name.calls a0 false _ A2.out).mono ?_); rintro e w' ⟨rfl, ⟨nd, rfl⟩⟩; refine ⟨_, rfl, ?_⟩))
    go_ret
    exact ⟨by first | rfl | (simp; done) | (simp [*]; done), by repeat (first | exact Drawn0.refl _ | apply Drawn0.step)⟩

/-! ### gramaryelaw27_works: function 14 -/
def gramaryelaw27_works.f (k : Nat)  : Option (Bool) := (word_Rule.f (⟨#[114, 117, 108, 101, 95, 101, 120, 112, 114]⟩ : ByteArray)).bind fun bt125 => ((word_Of.f (⟨#[101, 120, 112, 114]⟩ : ByteArray)).bind fun t127 => (if t127.toList = ([114, 117, 108, 101, 95, 101, 120, 112, 114] : List UInt8) then (if bt125.1.toList = ([101, 120, 112, 114] : List UInt8) then (if bt125.2 = true then ((word_Is.f k (⟨#[120, 49]⟩ : ByteArray)).bind fun t128 => (if t128 = true then ((word_Is.f k (⟨#[105, 102]⟩ : ByteArray)).bind fun t129 => (if t129 = true then (some false) else ((word_Type.f k (⟨#[42, 116, 114, 101, 101]⟩ : ByteArray)).bind fun t130 => (some t130)))) else (some false))) else (some false)) else (some false)) else (some false)))
theorem gramaryelaw27_works.mono : ∀ k, LeO (gramaryelaw27_works.f k ) (gramaryelaw27_works.f (k + 1) ) := by
  intro  k
  unfold gramaryelaw27_works.f
  repeat' first
      | (with_reducible exact word_Is.mono _ _)
      | (with_reducible exact word_Type.mono _ _)
      | (with_reducible exact LeO.refl _)
      | (with_reducible exact LeO.none _)
      | (with_reducible refine LeO.ite ?_ ?_)
      | (with_reducible refine LeO.bind ?_ (fun _ => ?_))
      | exact word_Is.mono _ _
      | exact word_Type.mono _ _
      | exact LeO.none _
      | refine LeO.ite ?_ ?_
      | refine LeO.bind ?_ (fun _ => ?_)
set_option maxHeartbeats 8000000 in
set_option maxRecDepth 100000 in
theorem gramaryelaw27_works.calls (k : Nat)  (r : Bool) (w : World) (h : gramaryelaw27_works.f k  = some r) (hGGKey : GKey w := by first | assumption | (unfold GKey at *; repeat (first | assumption | apply Holds.drewN | apply Holds.drew | apply Holds.alloc | exact Holds.drawn (by assumption) (by assumption) | exact Holds.aside (by assumption) (by assumption)))) (hGGResv : GResv w := by first | assumption | (unfold GResv at *; repeat (first | assumption | apply Holds.drewN | apply Holds.drew | apply Holds.alloc | exact Holds.drawn (by assumption) (by assumption) | exact Holds.aside (by assumption) (by assumption)))) :
    Calls Tryd.prog 14 #[] w fun e w' => e = .returned (.bool r) ∧ Drawn0 w w' := by
  have H : ((word_Rule.f (⟨#[114, 117, 108, 101, 95, 101, 120, 112, 114]⟩ : ByteArray)).bind fun bt125 => ((word_Of.f (⟨#[101, 120, 112, 114]⟩ : ByteArray)).bind fun t127 => (if t127.toList = ([114, 117, 108, 101, 95, 101, 120, 112, 114] : List UInt8) then (if bt125.1.toList = ([101, 120, 112, 114] : List UInt8) then (if bt125.2 = true then ((word_Is.f k (⟨#[120, 49]⟩ : ByteArray)).bind fun t128 => (if t128 = true then ((word_Is.f k (⟨#[105, 102]⟩ : ByteArray)).bind fun t129 => (if t129 = true then (some false) else ((word_Type.f k (⟨#[42, 116, 114, 101, 101]⟩ : ByteArray)).bind fun t130 => (some t130)))) else (some false))) else (some false)) else (some false)) else (some false)))) = some r := h
  clear h
  replace H := Option.bind_eq_some_iff.mp H
  obtain ⟨⟨t125, t126⟩, A10, H⟩ := H
  replace H : ((word_Of.f (⟨#[101, 120, 112, 114]⟩ : ByteArray)).bind fun t127 => (if t127.toList = ([114, 117, 108, 101, 95, 101, 120, 112, 114] : List UInt8) then (if t125.toList = ([101, 120, 112, 114] : List UInt8) then (if t126 = true then ((word_Is.f k (⟨#[120, 49]⟩ : ByteArray)).bind fun t128 => (if t128 = true then ((word_Is.f k (⟨#[105, 102]⟩ : ByteArray)).bind fun t129 => (if t129 = true then (some false) else ((word_Type.f k (⟨#[42, 116, 114, 101, 101]⟩ : ByteArray)).bind fun t130 => (some t130)))) else (some false))) else (some false)) else (some false)) else (some false))) = some r := H
  have A1 := Aside0.mk A10
  clear A10
  replace H := Option.bind_eq_some_iff.mp H
  obtain ⟨t127, A20, H⟩ := H
  replace H : (if t127.toList = ([114, 117, 108, 101, 95, 101, 120, 112, 114] : List UInt8) then (if t125.toList = ([101, 120, 112, 114] : List UInt8) then (if t126 = true then ((word_Is.f k (⟨#[120, 49]⟩ : ByteArray)).bind fun t128 => (if t128 = true then ((word_Is.f k (⟨#[105, 102]⟩ : ByteArray)).bind fun t129 => (if t129 = true then (some false) else ((word_Type.f k (⟨#[42, 116, 114, 101, 101]⟩ : ByteArray)).bind fun t130 => (some t130)))) else (some false))) else (some false)) else (some false)) else (some false)) = some r := H
  have A2 := Aside0.mk A20
  clear A20
  by_cases c3 : t127.toList = ([114, 117, 108, 101, 95, 101, 120, 112, 114] : List UInt8)
  · rw [if_pos c3] at H
    have c3b0 : (t127.toList == ([114, 117, 108, 101, 95, 101, 120, 112, 114] : List UInt8)) = true := beq_iff_eq.mpr c3
    have c3b1 : (t127.toList != ([114, 117, 108, 101, 95, 101, 120, 112, 114] : List UInt8)) = false := bne_eq_false_iff_eq.mpr c3
    clear c3
    by_cases c4 : t125.toList = ([101, 120, 112, 114] : List UInt8)
    · rw [if_pos c4] at H
      have c4b0 : (t125.toList == ([101, 120, 112, 114] : List UInt8)) = true := beq_iff_eq.mpr c4
      have c4b1 : (t125.toList != ([101, 120, 112, 114] : List UInt8)) = false := bne_eq_false_iff_eq.mpr c4
      clear c4
      by_cases c5 : t126 = true
      · subst c5
        have H1 : ((word_Is.f k (⟨#[120, 49]⟩ : ByteArray)).bind fun t128 => (if t128 = true then ((word_Is.f k (⟨#[105, 102]⟩ : ByteArray)).bind fun t129 => (if t129 = true then (some false) else ((word_Type.f k (⟨#[42, 116, 114, 101, 101]⟩ : ByteArray)).bind fun t130 => (some t130)))) else (some false))) = some r := by rw [if_pos rfl] at H; exact H
        clear H
        have H := H1
        clear H1
        replace H := Option.bind_eq_some_iff.mp H
        obtain ⟨t128, A60, H⟩ := H
        replace H : (if t128 = true then ((word_Is.f k (⟨#[105, 102]⟩ : ByteArray)).bind fun t129 => (if t129 = true then (some false) else ((word_Type.f k (⟨#[42, 116, 114, 101, 101]⟩ : ByteArray)).bind fun t130 => (some t130)))) else (some false)) = some r := H
        have A6 := Aside0.mk A60
        clear A60
        by_cases c7 : t128 = true
        · subst c7
          have H1 : ((word_Is.f k (⟨#[105, 102]⟩ : ByteArray)).bind fun t129 => (if t129 = true then (some false) else ((word_Type.f k (⟨#[42, 116, 114, 101, 101]⟩ : ByteArray)).bind fun t130 => (some t130)))) = some r := by rw [if_pos rfl] at H; exact H
          clear H
          have H := H1
          clear H1
          replace H := Option.bind_eq_some_iff.mp H
          obtain ⟨t129, A80, H⟩ := H
          replace H : (if t129 = true then (some false) else ((word_Type.f k (⟨#[42, 116, 114, 101, 101]⟩ : ByteArray)).bind fun t130 => (some t130))) = some r := H
          have A8 := Aside0.mk A80
          clear A80
          by_cases c9 : t129 = true
          · subst c9
            have H1 : (some false) = some r := by rw [if_pos rfl] at H; exact H
            clear H
            have H := H1
            clear H1
            obtain rfl := Option.some.inj H
            go_enter Tryd.func14, Tryd.ntmps14
            go_wp2_with (first | ((with_reducible refine gate_callee (f := 15) rfl ?_); refine goesL_ (some 4) rfl rfl Tryd.func15 (by kernel_rfl) rfl #[.string (⟨#[114, 117, 108, 101, 95, 101, 120, 112, 114]⟩ : ByteArray)] rfl (by (try simp only [List.map_toArray, List.map_cons, List.map_nil]); first | done | rfl | (simp only [List.length_drop, List.length_take]; rfl)) ?_; (with_reducible refine (word_Rule.calls (⟨#[114, 117, 108, 101, 95, 101, 120, 112, 114]⟩ : ByteArray) t125 true _ A1.out).mono ?_); rintro e w' ⟨rfl, ⟨nd, rfl⟩⟩; refine ⟨_, rfl, ?_⟩) | ((with_reducible refine gate_callee (f := 17) rfl ?_); refine goesL_ (some 7) rfl rfl Tryd.func17 (by kernel_rfl) rfl #[.string (⟨#[101, 120, 112, 114]⟩ : ByteArray)] rfl (by (try simp only [List.map_toArray, List.map_cons, List.map_nil]); first | done | rfl | (simp only [List.length_drop, List.length_take]; rfl)) ?_; (with_reducible refine (word_Of.calls (⟨#[101, 120, 112, 114]⟩ : ByteArray) t127 _ A2.out).mono ?_); rintro e w' ⟨rfl, ⟨nd, rfl⟩⟩; refine ⟨_, rfl, ?_⟩) | (go_at_call 8; (with_reducible refine (word_Is.calls k (⟨#[120, 49]⟩ : ByteArray) true _ A6.out).mono ?_); rintro e w' ⟨rfl, ⟨nd, rfl⟩⟩) | (go_at_call 8; (with_reducible refine (word_Is.calls k (⟨#[105, 102]⟩ : ByteArray) true _ A8.out).mono ?_); rintro e w' ⟨rfl, ⟨nd, rfl⟩⟩))
            go_ret
            exact ⟨by first | rfl | (simp; done) | (simp [*]; done), by repeat (first | exact Drawn0.refl _ | apply Drawn0.step)⟩
          · replace c9 := Bool.eq_false_iff.mpr c9
            subst c9
            have H1 : ((word_Type.f k (⟨#[42, 116, 114, 101, 101]⟩ : ByteArray)).bind fun t130 => (some t130)) = some r := by rw [if_neg (show ¬ (false = true) by decide)] at H; exact H
            clear H
            have H := H1
            clear H1
            replace H := Option.bind_eq_some_iff.mp H
            obtain ⟨t130, A100, H⟩ := H
            replace H : (some t130) = some r := H
            have A10 := Aside0.mk A100
            clear A100
            obtain rfl := Option.some.inj H
            go_enter Tryd.func14, Tryd.ntmps14
            go_wp2_with (first | ((with_reducible refine gate_callee (f := 15) rfl ?_); refine goesL_ (some 4) rfl rfl Tryd.func15 (by kernel_rfl) rfl #[.string (⟨#[114, 117, 108, 101, 95, 101, 120, 112, 114]⟩ : ByteArray)] rfl (by (try simp only [List.map_toArray, List.map_cons, List.map_nil]); first | done | rfl | (simp only [List.length_drop, List.length_take]; rfl)) ?_; (with_reducible refine (word_Rule.calls (⟨#[114, 117, 108, 101, 95, 101, 120, 112, 114]⟩ : ByteArray) t125 true _ A1.out).mono ?_); rintro e w' ⟨rfl, ⟨nd, rfl⟩⟩; refine ⟨_, rfl, ?_⟩) | ((with_reducible refine gate_callee (f := 17) rfl ?_); refine goesL_ (some 7) rfl rfl Tryd.func17 (by kernel_rfl) rfl #[.string (⟨#[101, 120, 112, 114]⟩ : ByteArray)] rfl (by (try simp only [List.map_toArray, List.map_cons, List.map_nil]); first | done | rfl | (simp only [List.length_drop, List.length_take]; rfl)) ?_; (with_reducible refine (word_Of.calls (⟨#[101, 120, 112, 114]⟩ : ByteArray) t127 _ A2.out).mono ?_); rintro e w' ⟨rfl, ⟨nd, rfl⟩⟩; refine ⟨_, rfl, ?_⟩) | (go_at_call 8; (with_reducible refine (word_Is.calls k (⟨#[120, 49]⟩ : ByteArray) true _ A6.out).mono ?_); rintro e w' ⟨rfl, ⟨nd, rfl⟩⟩) | (go_at_call 8; (with_reducible refine (word_Is.calls k (⟨#[105, 102]⟩ : ByteArray) false _ A8.out).mono ?_); rintro e w' ⟨rfl, ⟨nd, rfl⟩⟩) | (go_at_call 12; (with_reducible refine (word_Type.calls k (⟨#[42, 116, 114, 101, 101]⟩ : ByteArray) t130 _ A10.out).mono ?_); rintro e w' ⟨rfl, ⟨nd, rfl⟩⟩))
            go_ret
            exact ⟨by first | rfl | (simp; done) | (simp [*]; done), by repeat (first | exact Drawn0.refl _ | apply Drawn0.step)⟩
        · replace c7 := Bool.eq_false_iff.mpr c7
          subst c7
          have H1 : (some false) = some r := by rw [if_neg (show ¬ (false = true) by decide)] at H; exact H
          clear H
          have H := H1
          clear H1
          obtain rfl := Option.some.inj H
          go_enter Tryd.func14, Tryd.ntmps14
          go_wp2_with (first | ((with_reducible refine gate_callee (f := 15) rfl ?_); refine goesL_ (some 4) rfl rfl Tryd.func15 (by kernel_rfl) rfl #[.string (⟨#[114, 117, 108, 101, 95, 101, 120, 112, 114]⟩ : ByteArray)] rfl (by (try simp only [List.map_toArray, List.map_cons, List.map_nil]); first | done | rfl | (simp only [List.length_drop, List.length_take]; rfl)) ?_; (with_reducible refine (word_Rule.calls (⟨#[114, 117, 108, 101, 95, 101, 120, 112, 114]⟩ : ByteArray) t125 true _ A1.out).mono ?_); rintro e w' ⟨rfl, ⟨nd, rfl⟩⟩; refine ⟨_, rfl, ?_⟩) | ((with_reducible refine gate_callee (f := 17) rfl ?_); refine goesL_ (some 7) rfl rfl Tryd.func17 (by kernel_rfl) rfl #[.string (⟨#[101, 120, 112, 114]⟩ : ByteArray)] rfl (by (try simp only [List.map_toArray, List.map_cons, List.map_nil]); first | done | rfl | (simp only [List.length_drop, List.length_take]; rfl)) ?_; (with_reducible refine (word_Of.calls (⟨#[101, 120, 112, 114]⟩ : ByteArray) t127 _ A2.out).mono ?_); rintro e w' ⟨rfl, ⟨nd, rfl⟩⟩; refine ⟨_, rfl, ?_⟩) | (go_at_call 8; (with_reducible refine (word_Is.calls k (⟨#[120, 49]⟩ : ByteArray) false _ A6.out).mono ?_); rintro e w' ⟨rfl, ⟨nd, rfl⟩⟩))
          go_ret
          exact ⟨by first | rfl | (simp; done) | (simp [*]; done), by repeat (first | exact Drawn0.refl _ | apply Drawn0.step)⟩
      · replace c5 := Bool.eq_false_iff.mpr c5
        subst c5
        have H1 : (some false) = some r := by rw [if_neg (show ¬ (false = true) by decide)] at H; exact H
        clear H
        have H := H1
        clear H1
        obtain rfl := Option.some.inj H
        go_enter Tryd.func14, Tryd.ntmps14
        go_wp2_with (first | ((with_reducible refine gate_callee (f := 15) rfl ?_); refine goesL_ (some 4) rfl rfl Tryd.func15 (by kernel_rfl) rfl #[.string (⟨#[114, 117, 108, 101, 95, 101, 120, 112, 114]⟩ : ByteArray)] rfl (by (try simp only [List.map_toArray, List.map_cons, List.map_nil]); first | done | rfl | (simp only [List.length_drop, List.length_take]; rfl)) ?_; (with_reducible refine (word_Rule.calls (⟨#[114, 117, 108, 101, 95, 101, 120, 112, 114]⟩ : ByteArray) t125 false _ A1.out).mono ?_); rintro e w' ⟨rfl, ⟨nd, rfl⟩⟩; refine ⟨_, rfl, ?_⟩) | ((with_reducible refine gate_callee (f := 17) rfl ?_); refine goesL_ (some 7) rfl rfl Tryd.func17 (by kernel_rfl) rfl #[.string (⟨#[101, 120, 112, 114]⟩ : ByteArray)] rfl (by (try simp only [List.map_toArray, List.map_cons, List.map_nil]); first | done | rfl | (simp only [List.length_drop, List.length_take]; rfl)) ?_; (with_reducible refine (word_Of.calls (⟨#[101, 120, 112, 114]⟩ : ByteArray) t127 _ A2.out).mono ?_); rintro e w' ⟨rfl, ⟨nd, rfl⟩⟩; refine ⟨_, rfl, ?_⟩))
        go_ret
        exact ⟨by first | rfl | (simp; done) | (simp [*]; done), by repeat (first | exact Drawn0.refl _ | apply Drawn0.step)⟩
    · rw [if_neg c4] at H
      have c4b0 : (t125.toList == ([101, 120, 112, 114] : List UInt8)) = false := beq_eq_false_iff_ne.mpr c4
      have c4b1 : (t125.toList != ([101, 120, 112, 114] : List UInt8)) = true := bne_iff_ne.mpr c4
      obtain rfl := Option.some.inj H
      go_enter Tryd.func14, Tryd.ntmps14
      go_wp2_with (first | ((with_reducible refine gate_callee (f := 15) rfl ?_); refine goesL_ (some 4) rfl rfl Tryd.func15 (by kernel_rfl) rfl #[.string (⟨#[114, 117, 108, 101, 95, 101, 120, 112, 114]⟩ : ByteArray)] rfl (by (try simp only [List.map_toArray, List.map_cons, List.map_nil]); first | done | rfl | (simp only [List.length_drop, List.length_take]; rfl)) ?_; (with_reducible refine (word_Rule.calls (⟨#[114, 117, 108, 101, 95, 101, 120, 112, 114]⟩ : ByteArray) t125 t126 _ A1.out).mono ?_); rintro e w' ⟨rfl, ⟨nd, rfl⟩⟩; refine ⟨_, rfl, ?_⟩) | ((with_reducible refine gate_callee (f := 17) rfl ?_); refine goesL_ (some 7) rfl rfl Tryd.func17 (by kernel_rfl) rfl #[.string (⟨#[101, 120, 112, 114]⟩ : ByteArray)] rfl (by (try simp only [List.map_toArray, List.map_cons, List.map_nil]); first | done | rfl | (simp only [List.length_drop, List.length_take]; rfl)) ?_; (with_reducible refine (word_Of.calls (⟨#[101, 120, 112, 114]⟩ : ByteArray) t127 _ A2.out).mono ?_); rintro e w' ⟨rfl, ⟨nd, rfl⟩⟩; refine ⟨_, rfl, ?_⟩))
      go_ret
      exact ⟨by first | rfl | (simp; done) | (simp [*]; done), by repeat (first | exact Drawn0.refl _ | apply Drawn0.step)⟩
  · rw [if_neg c3] at H
    have c3b0 : (t127.toList == ([114, 117, 108, 101, 95, 101, 120, 112, 114] : List UInt8)) = false := beq_eq_false_iff_ne.mpr c3
    have c3b1 : (t127.toList != ([114, 117, 108, 101, 95, 101, 120, 112, 114] : List UInt8)) = true := bne_iff_ne.mpr c3
    obtain rfl := Option.some.inj H
    go_enter Tryd.func14, Tryd.ntmps14
    go_wp2_with (first | ((with_reducible refine gate_callee (f := 15) rfl ?_); refine goesL_ (some 4) rfl rfl Tryd.func15 (by kernel_rfl) rfl #[.string (⟨#[114, 117, 108, 101, 95, 101, 120, 112, 114]⟩ : ByteArray)] rfl (by (try simp only [List.map_toArray, List.map_cons, List.map_nil]); first | done | rfl | (simp only [List.length_drop, List.length_take]; rfl)) ?_; (with_reducible refine (word_Rule.calls (⟨#[114, 117, 108, 101, 95, 101, 120, 112, 114]⟩ : ByteArray) t125 t126 _ A1.out).mono ?_); rintro e w' ⟨rfl, ⟨nd, rfl⟩⟩; refine ⟨_, rfl, ?_⟩) | ((with_reducible refine gate_callee (f := 17) rfl ?_); refine goesL_ (some 7) rfl rfl Tryd.func17 (by kernel_rfl) rfl #[.string (⟨#[101, 120, 112, 114]⟩ : ByteArray)] rfl (by (try simp only [List.map_toArray, List.map_cons, List.map_nil]); first | done | rfl | (simp only [List.length_drop, List.length_take]; rfl)) ?_; (with_reducible refine (word_Of.calls (⟨#[101, 120, 112, 114]⟩ : ByteArray) t127 _ A2.out).mono ?_); rintro e w' ⟨rfl, ⟨nd, rfl⟩⟩; refine ⟨_, rfl, ?_⟩))
    go_ret
    exact ⟨by first | rfl | (simp; done) | (simp [*]; done), by repeat (first | exact Drawn0.refl _ | apply Drawn0.step)⟩

/-! ### gramaryelaw27_WordTells: function 3 -/
def gramaryelaw27_WordTells.f (k : Nat) (a0 : ByteArray) : Option (Bool) := (word_Points.f k a0).bind fun bt131 => ((gramaryeref27_Points.f k a0).bind fun bt133 => ((word_Is.f k a0).bind fun t135 => ((gramaryeref27_Is.f k a0).bind fun t136 => (if (t135 == t136) = true then ((word_Reserved.f a0).bind fun t137 => ((gramaryeref27_Reserved.f k a0).bind fun t138 => (if (t137 == t138) = true then ((word_Type.f k a0).bind fun t139 => ((gramaryeref27_Type.f k a0).bind fun t140 => (if (t139 == t140) = true then (if bt131.1.toList = bt133.1.toList then (if (bt131.2 == bt133.2) = true then ((gramaryelaw27_works.f k).bind fun t141 => (some t141)) else (some false)) else (some false)) else (some false)))) else (some false)))) else (some false)))))
theorem gramaryelaw27_WordTells.mono : ∀ a0 k, LeO (gramaryelaw27_WordTells.f k a0) (gramaryelaw27_WordTells.f (k + 1) a0) := by
  intro a0 k
  unfold gramaryelaw27_WordTells.f
  repeat' first
      | (with_reducible exact gramaryelaw27_works.mono _)
      | (with_reducible exact gramaryeref27_Is.mono _ _)
      | (with_reducible exact gramaryeref27_Points.mono _ _)
      | (with_reducible exact gramaryeref27_Reserved.mono _ _)
      | (with_reducible exact gramaryeref27_Type.mono _ _)
      | (with_reducible exact word_Is.mono _ _)
      | (with_reducible exact word_Points.mono _ _)
      | (with_reducible exact word_Type.mono _ _)
      | (with_reducible exact LeO.refl _)
      | (with_reducible exact LeO.none _)
      | (with_reducible refine LeO.ite ?_ ?_)
      | (with_reducible refine LeO.bind ?_ (fun _ => ?_))
      | exact gramaryelaw27_works.mono _
      | exact gramaryeref27_Is.mono _ _
      | exact gramaryeref27_Points.mono _ _
      | exact gramaryeref27_Reserved.mono _ _
      | exact gramaryeref27_Type.mono _ _
      | exact word_Is.mono _ _
      | exact word_Points.mono _ _
      | exact word_Type.mono _ _
      | exact LeO.none _
      | refine LeO.ite ?_ ?_
      | refine LeO.bind ?_ (fun _ => ?_)
set_option maxHeartbeats 8000000 in
set_option maxRecDepth 100000 in
theorem gramaryelaw27_WordTells.calls (k : Nat) (a0 : ByteArray) (r : Bool) (w : World) (h : gramaryelaw27_WordTells.f k a0 = some r) (hGGKey : GKey w := by first | assumption | (unfold GKey at *; repeat (first | assumption | apply Holds.drewN | apply Holds.drew | apply Holds.alloc | exact Holds.drawn (by assumption) (by assumption) | exact Holds.aside (by assumption) (by assumption)))) (hGGResv : GResv w := by first | assumption | (unfold GResv at *; repeat (first | assumption | apply Holds.drewN | apply Holds.drew | apply Holds.alloc | exact Holds.drawn (by assumption) (by assumption) | exact Holds.aside (by assumption) (by assumption)))) :
    Calls Tryd.prog 3 #[.string a0] w fun e w' => e = .returned (.bool r) ∧ Below w.heap.size w w' := by
  have HB := Aside0.mk (Below.refl w.heap.size w)
  have H : ((word_Points.f k a0).bind fun bt131 => ((gramaryeref27_Points.f k a0).bind fun bt133 => ((word_Is.f k a0).bind fun t135 => ((gramaryeref27_Is.f k a0).bind fun t136 => (if (t135 == t136) = true then ((word_Reserved.f a0).bind fun t137 => ((gramaryeref27_Reserved.f k a0).bind fun t138 => (if (t137 == t138) = true then ((word_Type.f k a0).bind fun t139 => ((gramaryeref27_Type.f k a0).bind fun t140 => (if (t139 == t140) = true then (if bt131.1.toList = bt133.1.toList then (if (bt131.2 == bt133.2) = true then ((gramaryelaw27_works.f k).bind fun t141 => (some t141)) else (some false)) else (some false)) else (some false)))) else (some false)))) else (some false)))))) = some r := h
  clear h
  replace H := Option.bind_eq_some_iff.mp H
  obtain ⟨⟨t131, t132⟩, A20, H⟩ := H
  replace H : ((gramaryeref27_Points.f k a0).bind fun bt133 => ((word_Is.f k a0).bind fun t135 => ((gramaryeref27_Is.f k a0).bind fun t136 => (if (t135 == t136) = true then ((word_Reserved.f a0).bind fun t137 => ((gramaryeref27_Reserved.f k a0).bind fun t138 => (if (t137 == t138) = true then ((word_Type.f k a0).bind fun t139 => ((gramaryeref27_Type.f k a0).bind fun t140 => (if (t139 == t140) = true then (if t131.toList = bt133.1.toList then (if (t132 == bt133.2) = true then ((gramaryelaw27_works.f k).bind fun t141 => (some t141)) else (some false)) else (some false)) else (some false)))) else (some false)))) else (some false))))) = some r := H
  have A2 := Aside0.mk A20
  clear A20
  replace H := Option.bind_eq_some_iff.mp H
  obtain ⟨⟨t133, t134⟩, A30, H⟩ := H
  replace H : ((word_Is.f k a0).bind fun t135 => ((gramaryeref27_Is.f k a0).bind fun t136 => (if (t135 == t136) = true then ((word_Reserved.f a0).bind fun t137 => ((gramaryeref27_Reserved.f k a0).bind fun t138 => (if (t137 == t138) = true then ((word_Type.f k a0).bind fun t139 => ((gramaryeref27_Type.f k a0).bind fun t140 => (if (t139 == t140) = true then (if t131.toList = t133.toList then (if (t132 == t134) = true then ((gramaryelaw27_works.f k).bind fun t141 => (some t141)) else (some false)) else (some false)) else (some false)))) else (some false)))) else (some false)))) = some r := H
  have A3 := Aside0.mk A30
  clear A30
  replace H := Option.bind_eq_some_iff.mp H
  obtain ⟨t135, A40, H⟩ := H
  replace H : ((gramaryeref27_Is.f k a0).bind fun t136 => (if (t135 == t136) = true then ((word_Reserved.f a0).bind fun t137 => ((gramaryeref27_Reserved.f k a0).bind fun t138 => (if (t137 == t138) = true then ((word_Type.f k a0).bind fun t139 => ((gramaryeref27_Type.f k a0).bind fun t140 => (if (t139 == t140) = true then (if t131.toList = t133.toList then (if (t132 == t134) = true then ((gramaryelaw27_works.f k).bind fun t141 => (some t141)) else (some false)) else (some false)) else (some false)))) else (some false)))) else (some false))) = some r := H
  have A4 := Aside0.mk A40
  clear A40
  replace H := Option.bind_eq_some_iff.mp H
  obtain ⟨t136, A50, H⟩ := H
  replace H : (if (t135 == t136) = true then ((word_Reserved.f a0).bind fun t137 => ((gramaryeref27_Reserved.f k a0).bind fun t138 => (if (t137 == t138) = true then ((word_Type.f k a0).bind fun t139 => ((gramaryeref27_Type.f k a0).bind fun t140 => (if (t139 == t140) = true then (if t131.toList = t133.toList then (if (t132 == t134) = true then ((gramaryelaw27_works.f k).bind fun t141 => (some t141)) else (some false)) else (some false)) else (some false)))) else (some false)))) else (some false)) = some r := H
  have A5 := Aside0.mk A50
  clear A50
  by_cases c6 : (t135 == t136) = true
  · rw [if_pos c6] at H
    have c6b0 : (t135 == t136) = true := c6
    (try (have c6b1 : decide (t135 = t136) = true := by simpa using c6))
    (try (have c6b2 : (t135 == t136) = true := by simpa using c6))
    clear c6
    replace H := Option.bind_eq_some_iff.mp H
    obtain ⟨t137, A70, H⟩ := H
    replace H : ((gramaryeref27_Reserved.f k a0).bind fun t138 => (if (t137 == t138) = true then ((word_Type.f k a0).bind fun t139 => ((gramaryeref27_Type.f k a0).bind fun t140 => (if (t139 == t140) = true then (if t131.toList = t133.toList then (if (t132 == t134) = true then ((gramaryelaw27_works.f k).bind fun t141 => (some t141)) else (some false)) else (some false)) else (some false)))) else (some false))) = some r := H
    have A7 := Aside0.mk A70
    clear A70
    replace H := Option.bind_eq_some_iff.mp H
    obtain ⟨t138, A80, H⟩ := H
    replace H : (if (t137 == t138) = true then ((word_Type.f k a0).bind fun t139 => ((gramaryeref27_Type.f k a0).bind fun t140 => (if (t139 == t140) = true then (if t131.toList = t133.toList then (if (t132 == t134) = true then ((gramaryelaw27_works.f k).bind fun t141 => (some t141)) else (some false)) else (some false)) else (some false)))) else (some false)) = some r := H
    have A8 := Aside0.mk A80
    clear A80
    by_cases c9 : (t137 == t138) = true
    · rw [if_pos c9] at H
      have c9b0 : (t137 == t138) = true := c9
      (try (have c9b1 : decide (t137 = t138) = true := by simpa using c9))
      (try (have c9b2 : (t137 == t138) = true := by simpa using c9))
      clear c9
      replace H := Option.bind_eq_some_iff.mp H
      obtain ⟨t139, A100, H⟩ := H
      replace H : ((gramaryeref27_Type.f k a0).bind fun t140 => (if (t139 == t140) = true then (if t131.toList = t133.toList then (if (t132 == t134) = true then ((gramaryelaw27_works.f k).bind fun t141 => (some t141)) else (some false)) else (some false)) else (some false))) = some r := H
      have A10 := Aside0.mk A100
      clear A100
      replace H := Option.bind_eq_some_iff.mp H
      obtain ⟨t140, A110, H⟩ := H
      replace H : (if (t139 == t140) = true then (if t131.toList = t133.toList then (if (t132 == t134) = true then ((gramaryelaw27_works.f k).bind fun t141 => (some t141)) else (some false)) else (some false)) else (some false)) = some r := H
      have A11 := Aside0.mk A110
      clear A110
      by_cases c12 : (t139 == t140) = true
      · rw [if_pos c12] at H
        have c12b0 : (t139 == t140) = true := c12
        (try (have c12b1 : decide (t139 = t140) = true := by simpa using c12))
        (try (have c12b2 : (t139 == t140) = true := by simpa using c12))
        clear c12
        by_cases c13 : t131.toList = t133.toList
        · rw [if_pos c13] at H
          have c13b0 : (t131.toList == t133.toList) = true := beq_iff_eq.mpr c13
          have c13b1 : (t131.toList != t133.toList) = false := bne_eq_false_iff_eq.mpr c13
          clear c13
          by_cases c14 : (t132 == t134) = true
          · rw [if_pos c14] at H
            have c14b0 : (t132 == t134) = true := c14
            (try (have c14b1 : decide (t132 = t134) = true := by simpa using c14))
            (try (have c14b2 : (t132 == t134) = true := by simpa using c14))
            clear c14
            replace H := Option.bind_eq_some_iff.mp H
            obtain ⟨t141, A150, H⟩ := H
            replace H : (some t141) = some r := H
            have A15 := Aside0.mk A150
            clear A150
            obtain rfl := Option.some.inj H
            go_enter Tryd.func3, Tryd.ntmps3
            go_wp2_with (first | ((with_reducible refine gate_callee (f := 6) rfl ?_); refine goesL_ (some 9) rfl rfl Tryd.func6 (by kernel_rfl) rfl #[.string a0] rfl (by (try simp only [List.map_toArray, List.map_cons, List.map_nil]); first | done | rfl | (simp only [List.length_drop, List.length_take]; rfl)) ?_; (with_reducible refine (word_Points.calls k a0 t131 t132 _ A2.out).mono ?_); rintro e w' ⟨rfl, ⟨nd, rfl⟩⟩; refine ⟨_, rfl, ?_⟩) | ((with_reducible refine gate_callee (f := 7) rfl ?_); refine goesL_ (some 14) rfl rfl Tryd.func7 (by kernel_rfl) rfl #[.string a0] rfl (by (try simp only [List.map_toArray, List.map_cons, List.map_nil]); first | done | rfl | (simp only [List.length_drop, List.length_take]; rfl)) ?_; (with_reducible refine (gramaryeref27_Points.calls k a0 t133 t134 _ A3.out).mono ?_); rintro e w16 ⟨rfl, hb⟩; refine ⟨_, rfl, ?_⟩; have n0_ := Aside0.mk (below_step (by repeat (first | (with_reducible first | exact HB.out | apply below_alloc | apply pw_below_drewN | apply below_drew1) | exact HB.out)) hb); clear HB; have HB := n0_; clear n0_; (try clear hb); (try clear hb2); (try clear hk); (try clear hi)) | ((with_reducible refine gate_callee (f := 8) rfl ?_); refine goesL_ (some 18) rfl rfl Tryd.func8 (by kernel_rfl) rfl #[.string a0] rfl (by (try simp only [List.map_toArray, List.map_cons, List.map_nil]); first | done | rfl | (simp only [List.length_drop, List.length_take]; rfl)) ?_; (with_reducible refine (word_Is.calls k a0 t135 _ A4.out).mono ?_); rintro e w' ⟨rfl, ⟨nd, rfl⟩⟩; refine ⟨_, rfl, ?_⟩) | ((with_reducible refine gate_callee (f := 9) rfl ?_); refine goesL_ (some 20) rfl rfl Tryd.func9 (by kernel_rfl) rfl #[.string a0] rfl (by (try simp only [List.map_toArray, List.map_cons, List.map_nil]); first | done | rfl | (simp only [List.length_drop, List.length_take]; rfl)) ?_; (with_reducible refine (gramaryeref27_Is.calls k a0 t136 _ A5.out).mono ?_); rintro e w17 ⟨rfl, hb⟩; refine ⟨_, rfl, ?_⟩; have n0_ := Aside0.mk (below_step (by repeat (first | (with_reducible first | exact HB.out | apply below_alloc | apply pw_below_drewN | apply below_drew1) | exact HB.out)) hb); clear HB; have HB := n0_; clear n0_; (try clear hb); (try clear hb2); (try clear hk); (try clear hi)) | (go_at_call 10; (with_reducible refine (word_Reserved.calls a0 t137 _ A7.out).mono ?_); rintro e w' ⟨rfl, ⟨nd, rfl⟩⟩) | (go_at_call 11; (with_reducible refine (gramaryeref27_Reserved.calls k a0 t138 _ A8.out).mono ?_); rintro e w18 ⟨rfl, hb⟩; have n0_ := Aside0.mk (below_step (by repeat (first | (with_reducible first | exact HB.out | apply below_alloc | apply pw_below_drewN | apply below_drew1) | exact HB.out)) hb); clear HB; have HB := n0_; clear n0_; (try clear hb); (try clear hb2); (try clear hk); (try clear hi)) | (go_at_call 12; (with_reducible refine (word_Type.calls k a0 t139 _ A10.out).mono ?_); rintro e w' ⟨rfl, ⟨nd, rfl⟩⟩) | (go_at_call 13; (with_reducible refine (gramaryeref27_Type.calls k a0 t140 _ A11.out).mono ?_); rintro e w19 ⟨rfl, hb⟩; have n0_ := Aside0.mk (below_step (by repeat (first | (with_reducible first | exact HB.out | apply below_alloc | apply pw_below_drewN | apply below_drew1) | exact HB.out)) hb); clear HB; have HB := n0_; clear n0_; (try clear hb); (try clear hb2); (try clear hk); (try clear hi)) | (go_at_call 14; (with_reducible refine (gramaryelaw27_works.calls k  t141 _ A15.out).mono ?_); rintro e w' ⟨rfl, ⟨nd, rfl⟩⟩))
            go_ret
            exact ⟨by first | rfl | (simp [errW_none, errW_some] <;> rfl) | (simp [*, errW_none, errW_some] <;> rfl), by repeat (first | (with_reducible first | exact HB.out | apply below_alloc | apply pw_below_drewN | apply below_drew1) | exact HB.out)⟩
          · rw [if_neg c14] at H
            have c14b0 : (t132 == t134) = false := by simpa using c14
            (try (have c14b1 : decide (t132 = t134) = false := by simpa using c14))
            (try (have c14b2 : (t132 == t134) = false := by simpa using c14))
            (try (have c14b3 : ¬ (t132 = t134) := by simpa using c14))
            clear c14
            obtain rfl := Option.some.inj H
            go_enter Tryd.func3, Tryd.ntmps3
            go_wp2_with (first | ((with_reducible refine gate_callee (f := 6) rfl ?_); refine goesL_ (some 9) rfl rfl Tryd.func6 (by kernel_rfl) rfl #[.string a0] rfl (by (try simp only [List.map_toArray, List.map_cons, List.map_nil]); first | done | rfl | (simp only [List.length_drop, List.length_take]; rfl)) ?_; (with_reducible refine (word_Points.calls k a0 t131 t132 _ A2.out).mono ?_); rintro e w' ⟨rfl, ⟨nd, rfl⟩⟩; refine ⟨_, rfl, ?_⟩) | ((with_reducible refine gate_callee (f := 7) rfl ?_); refine goesL_ (some 14) rfl rfl Tryd.func7 (by kernel_rfl) rfl #[.string a0] rfl (by (try simp only [List.map_toArray, List.map_cons, List.map_nil]); first | done | rfl | (simp only [List.length_drop, List.length_take]; rfl)) ?_; (with_reducible refine (gramaryeref27_Points.calls k a0 t133 t134 _ A3.out).mono ?_); rintro e w20 ⟨rfl, hb⟩; refine ⟨_, rfl, ?_⟩; have n0_ := Aside0.mk (below_step (by repeat (first | (with_reducible first | exact HB.out | apply below_alloc | apply pw_below_drewN | apply below_drew1) | exact HB.out)) hb); clear HB; have HB := n0_; clear n0_; (try clear hb); (try clear hb2); (try clear hk); (try clear hi)) | ((with_reducible refine gate_callee (f := 8) rfl ?_); refine goesL_ (some 18) rfl rfl Tryd.func8 (by kernel_rfl) rfl #[.string a0] rfl (by (try simp only [List.map_toArray, List.map_cons, List.map_nil]); first | done | rfl | (simp only [List.length_drop, List.length_take]; rfl)) ?_; (with_reducible refine (word_Is.calls k a0 t135 _ A4.out).mono ?_); rintro e w' ⟨rfl, ⟨nd, rfl⟩⟩; refine ⟨_, rfl, ?_⟩) | ((with_reducible refine gate_callee (f := 9) rfl ?_); refine goesL_ (some 20) rfl rfl Tryd.func9 (by kernel_rfl) rfl #[.string a0] rfl (by (try simp only [List.map_toArray, List.map_cons, List.map_nil]); first | done | rfl | (simp only [List.length_drop, List.length_take]; rfl)) ?_; (with_reducible refine (gramaryeref27_Is.calls k a0 t136 _ A5.out).mono ?_); rintro e w21 ⟨rfl, hb⟩; refine ⟨_, rfl, ?_⟩; have n0_ := Aside0.mk (below_step (by repeat (first | (with_reducible first | exact HB.out | apply below_alloc | apply pw_below_drewN | apply below_drew1) | exact HB.out)) hb); clear HB; have HB := n0_; clear n0_; (try clear hb); (try clear hb2); (try clear hk); (try clear hi)) | (go_at_call 10; (with_reducible refine (word_Reserved.calls a0 t137 _ A7.out).mono ?_); rintro e w' ⟨rfl, ⟨nd, rfl⟩⟩) | (go_at_call 11; (with_reducible refine (gramaryeref27_Reserved.calls k a0 t138 _ A8.out).mono ?_); rintro e w22 ⟨rfl, hb⟩; have n0_ := Aside0.mk (below_step (by repeat (first | (with_reducible first | exact HB.out | apply below_alloc | apply pw_below_drewN | apply below_drew1) | exact HB.out)) hb); clear HB; have HB := n0_; clear n0_; (try clear hb); (try clear hb2); (try clear hk); (try clear hi)) | (go_at_call 12; (with_reducible refine (word_Type.calls k a0 t139 _ A10.out).mono ?_); rintro e w' ⟨rfl, ⟨nd, rfl⟩⟩) | (go_at_call 13; (with_reducible refine (gramaryeref27_Type.calls k a0 t140 _ A11.out).mono ?_); rintro e w23 ⟨rfl, hb⟩; have n0_ := Aside0.mk (below_step (by repeat (first | (with_reducible first | exact HB.out | apply below_alloc | apply pw_below_drewN | apply below_drew1) | exact HB.out)) hb); clear HB; have HB := n0_; clear n0_; (try clear hb); (try clear hb2); (try clear hk); (try clear hi)))
            go_ret
            exact ⟨by first | rfl | (simp [errW_none, errW_some] <;> rfl) | (simp [*, errW_none, errW_some] <;> rfl), by repeat (first | (with_reducible first | exact HB.out | apply below_alloc | apply pw_below_drewN | apply below_drew1) | exact HB.out)⟩
        · rw [if_neg c13] at H
          have c13b0 : (t131.toList == t133.toList) = false := beq_eq_false_iff_ne.mpr c13
          have c13b1 : (t131.toList != t133.toList) = true := bne_iff_ne.mpr c13
          obtain rfl := Option.some.inj H
          go_enter Tryd.func3, Tryd.ntmps3
          go_wp2_with (first | ((with_reducible refine gate_callee (f := 6) rfl ?_); refine goesL_ (some 9) rfl rfl Tryd.func6 (by kernel_rfl) rfl #[.string a0] rfl (by (try simp only [List.map_toArray, List.map_cons, List.map_nil]); first | done | rfl | (simp only [List.length_drop, List.length_take]; rfl)) ?_; (with_reducible refine (word_Points.calls k a0 t131 t132 _ A2.out).mono ?_); rintro e w' ⟨rfl, ⟨nd, rfl⟩⟩; refine ⟨_, rfl, ?_⟩) | ((with_reducible refine gate_callee (f := 7) rfl ?_); refine goesL_ (some 14) rfl rfl Tryd.func7 (by kernel_rfl) rfl #[.string a0] rfl (by (try simp only [List.map_toArray, List.map_cons, List.map_nil]); first | done | rfl | (simp only [List.length_drop, List.length_take]; rfl)) ?_; (with_reducible refine (gramaryeref27_Points.calls k a0 t133 t134 _ A3.out).mono ?_); rintro e w24 ⟨rfl, hb⟩; refine ⟨_, rfl, ?_⟩; have n0_ := Aside0.mk (below_step (by repeat (first | (with_reducible first | exact HB.out | apply below_alloc | apply pw_below_drewN | apply below_drew1) | exact HB.out)) hb); clear HB; have HB := n0_; clear n0_; (try clear hb); (try clear hb2); (try clear hk); (try clear hi)) | ((with_reducible refine gate_callee (f := 8) rfl ?_); refine goesL_ (some 18) rfl rfl Tryd.func8 (by kernel_rfl) rfl #[.string a0] rfl (by (try simp only [List.map_toArray, List.map_cons, List.map_nil]); first | done | rfl | (simp only [List.length_drop, List.length_take]; rfl)) ?_; (with_reducible refine (word_Is.calls k a0 t135 _ A4.out).mono ?_); rintro e w' ⟨rfl, ⟨nd, rfl⟩⟩; refine ⟨_, rfl, ?_⟩) | ((with_reducible refine gate_callee (f := 9) rfl ?_); refine goesL_ (some 20) rfl rfl Tryd.func9 (by kernel_rfl) rfl #[.string a0] rfl (by (try simp only [List.map_toArray, List.map_cons, List.map_nil]); first | done | rfl | (simp only [List.length_drop, List.length_take]; rfl)) ?_; (with_reducible refine (gramaryeref27_Is.calls k a0 t136 _ A5.out).mono ?_); rintro e w25 ⟨rfl, hb⟩; refine ⟨_, rfl, ?_⟩; have n0_ := Aside0.mk (below_step (by repeat (first | (with_reducible first | exact HB.out | apply below_alloc | apply pw_below_drewN | apply below_drew1) | exact HB.out)) hb); clear HB; have HB := n0_; clear n0_; (try clear hb); (try clear hb2); (try clear hk); (try clear hi)) | (go_at_call 10; (with_reducible refine (word_Reserved.calls a0 t137 _ A7.out).mono ?_); rintro e w' ⟨rfl, ⟨nd, rfl⟩⟩) | (go_at_call 11; (with_reducible refine (gramaryeref27_Reserved.calls k a0 t138 _ A8.out).mono ?_); rintro e w26 ⟨rfl, hb⟩; have n0_ := Aside0.mk (below_step (by repeat (first | (with_reducible first | exact HB.out | apply below_alloc | apply pw_below_drewN | apply below_drew1) | exact HB.out)) hb); clear HB; have HB := n0_; clear n0_; (try clear hb); (try clear hb2); (try clear hk); (try clear hi)) | (go_at_call 12; (with_reducible refine (word_Type.calls k a0 t139 _ A10.out).mono ?_); rintro e w' ⟨rfl, ⟨nd, rfl⟩⟩) | (go_at_call 13; (with_reducible refine (gramaryeref27_Type.calls k a0 t140 _ A11.out).mono ?_); rintro e w27 ⟨rfl, hb⟩; have n0_ := Aside0.mk (below_step (by repeat (first | (with_reducible first | exact HB.out | apply below_alloc | apply pw_below_drewN | apply below_drew1) | exact HB.out)) hb); clear HB; have HB := n0_; clear n0_; (try clear hb); (try clear hb2); (try clear hk); (try clear hi)))
          go_ret
          exact ⟨by first | rfl | (simp [errW_none, errW_some] <;> rfl) | (simp [*, errW_none, errW_some] <;> rfl), by repeat (first | (with_reducible first | exact HB.out | apply below_alloc | apply pw_below_drewN | apply below_drew1) | exact HB.out)⟩
      · rw [if_neg c12] at H
        have c12b0 : (t139 == t140) = false := by simpa using c12
        (try (have c12b1 : decide (t139 = t140) = false := by simpa using c12))
        (try (have c12b2 : (t139 == t140) = false := by simpa using c12))
        (try (have c12b3 : ¬ (t139 = t140) := by simpa using c12))
        clear c12
        obtain rfl := Option.some.inj H
        go_enter Tryd.func3, Tryd.ntmps3
        go_wp2_with (first | ((with_reducible refine gate_callee (f := 6) rfl ?_); refine goesL_ (some 9) rfl rfl Tryd.func6 (by kernel_rfl) rfl #[.string a0] rfl (by (try simp only [List.map_toArray, List.map_cons, List.map_nil]); first | done | rfl | (simp only [List.length_drop, List.length_take]; rfl)) ?_; (with_reducible refine (word_Points.calls k a0 t131 t132 _ A2.out).mono ?_); rintro e w' ⟨rfl, ⟨nd, rfl⟩⟩; refine ⟨_, rfl, ?_⟩) | ((with_reducible refine gate_callee (f := 7) rfl ?_); refine goesL_ (some 14) rfl rfl Tryd.func7 (by kernel_rfl) rfl #[.string a0] rfl (by (try simp only [List.map_toArray, List.map_cons, List.map_nil]); first | done | rfl | (simp only [List.length_drop, List.length_take]; rfl)) ?_; (with_reducible refine (gramaryeref27_Points.calls k a0 t133 t134 _ A3.out).mono ?_); rintro e w28 ⟨rfl, hb⟩; refine ⟨_, rfl, ?_⟩; have n0_ := Aside0.mk (below_step (by repeat (first | (with_reducible first | exact HB.out | apply below_alloc | apply pw_below_drewN | apply below_drew1) | exact HB.out)) hb); clear HB; have HB := n0_; clear n0_; (try clear hb); (try clear hb2); (try clear hk); (try clear hi)) | ((with_reducible refine gate_callee (f := 8) rfl ?_); refine goesL_ (some 18) rfl rfl Tryd.func8 (by kernel_rfl) rfl #[.string a0] rfl (by (try simp only [List.map_toArray, List.map_cons, List.map_nil]); first | done | rfl | (simp only [List.length_drop, List.length_take]; rfl)) ?_; (with_reducible refine (word_Is.calls k a0 t135 _ A4.out).mono ?_); rintro e w' ⟨rfl, ⟨nd, rfl⟩⟩; refine ⟨_, rfl, ?_⟩) | ((with_reducible refine gate_callee (f := 9) rfl ?_); refine goesL_ (some 20) rfl rfl Tryd.func9 (by kernel_rfl) rfl #[.string a0] rfl (by (try simp only [List.map_toArray, List.map_cons, List.map_nil]); first | done | rfl | (simp only [List.length_drop, List.length_take]; rfl)) ?_; (with_reducible refine (gramaryeref27_Is.calls k a0 t136 _ A5.out).mono ?_); rintro e w29 ⟨rfl, hb⟩; refine ⟨_, rfl, ?_⟩; have n0_ := Aside0.mk (below_step (by repeat (first | (with_reducible first | exact HB.out | apply below_alloc | apply pw_below_drewN | apply below_drew1) | exact HB.out)) hb); clear HB; have HB := n0_; clear n0_; (try clear hb); (try clear hb2); (try clear hk); (try clear hi)) | (go_at_call 10; (with_reducible refine (word_Reserved.calls a0 t137 _ A7.out).mono ?_); rintro e w' ⟨rfl, ⟨nd, rfl⟩⟩) | (go_at_call 11; (with_reducible refine (gramaryeref27_Reserved.calls k a0 t138 _ A8.out).mono ?_); rintro e w30 ⟨rfl, hb⟩; have n0_ := Aside0.mk (below_step (by repeat (first | (with_reducible first | exact HB.out | apply below_alloc | apply pw_below_drewN | apply below_drew1) | exact HB.out)) hb); clear HB; have HB := n0_; clear n0_; (try clear hb); (try clear hb2); (try clear hk); (try clear hi)) | (go_at_call 12; (with_reducible refine (word_Type.calls k a0 t139 _ A10.out).mono ?_); rintro e w' ⟨rfl, ⟨nd, rfl⟩⟩) | (go_at_call 13; (with_reducible refine (gramaryeref27_Type.calls k a0 t140 _ A11.out).mono ?_); rintro e w31 ⟨rfl, hb⟩; have n0_ := Aside0.mk (below_step (by repeat (first | (with_reducible first | exact HB.out | apply below_alloc | apply pw_below_drewN | apply below_drew1) | exact HB.out)) hb); clear HB; have HB := n0_; clear n0_; (try clear hb); (try clear hb2); (try clear hk); (try clear hi)))
        go_ret
        exact ⟨by first | rfl | (simp [errW_none, errW_some] <;> rfl) | (simp [*, errW_none, errW_some] <;> rfl), by repeat (first | (with_reducible first | exact HB.out | apply below_alloc | apply pw_below_drewN | apply below_drew1) | exact HB.out)⟩
    · rw [if_neg c9] at H
      have c9b0 : (t137 == t138) = false := by simpa using c9
      (try (have c9b1 : decide (t137 = t138) = false := by simpa using c9))
      (try (have c9b2 : (t137 == t138) = false := by simpa using c9))
      (try (have c9b3 : ¬ (t137 = t138) := by simpa using c9))
      clear c9
      obtain rfl := Option.some.inj H
      go_enter Tryd.func3, Tryd.ntmps3
      go_wp2_with (first | ((with_reducible refine gate_callee (f := 6) rfl ?_); refine goesL_ (some 9) rfl rfl Tryd.func6 (by kernel_rfl) rfl #[.string a0] rfl (by (try simp only [List.map_toArray, List.map_cons, List.map_nil]); first | done | rfl | (simp only [List.length_drop, List.length_take]; rfl)) ?_; (with_reducible refine (word_Points.calls k a0 t131 t132 _ A2.out).mono ?_); rintro e w' ⟨rfl, ⟨nd, rfl⟩⟩; refine ⟨_, rfl, ?_⟩) | ((with_reducible refine gate_callee (f := 7) rfl ?_); refine goesL_ (some 14) rfl rfl Tryd.func7 (by kernel_rfl) rfl #[.string a0] rfl (by (try simp only [List.map_toArray, List.map_cons, List.map_nil]); first | done | rfl | (simp only [List.length_drop, List.length_take]; rfl)) ?_; (with_reducible refine (gramaryeref27_Points.calls k a0 t133 t134 _ A3.out).mono ?_); rintro e w32 ⟨rfl, hb⟩; refine ⟨_, rfl, ?_⟩; have n0_ := Aside0.mk (below_step (by repeat (first | (with_reducible first | exact HB.out | apply below_alloc | apply pw_below_drewN | apply below_drew1) | exact HB.out)) hb); clear HB; have HB := n0_; clear n0_; (try clear hb); (try clear hb2); (try clear hk); (try clear hi)) | ((with_reducible refine gate_callee (f := 8) rfl ?_); refine goesL_ (some 18) rfl rfl Tryd.func8 (by kernel_rfl) rfl #[.string a0] rfl (by (try simp only [List.map_toArray, List.map_cons, List.map_nil]); first | done | rfl | (simp only [List.length_drop, List.length_take]; rfl)) ?_; (with_reducible refine (word_Is.calls k a0 t135 _ A4.out).mono ?_); rintro e w' ⟨rfl, ⟨nd, rfl⟩⟩; refine ⟨_, rfl, ?_⟩) | ((with_reducible refine gate_callee (f := 9) rfl ?_); refine goesL_ (some 20) rfl rfl Tryd.func9 (by kernel_rfl) rfl #[.string a0] rfl (by (try simp only [List.map_toArray, List.map_cons, List.map_nil]); first | done | rfl | (simp only [List.length_drop, List.length_take]; rfl)) ?_; (with_reducible refine (gramaryeref27_Is.calls k a0 t136 _ A5.out).mono ?_); rintro e w33 ⟨rfl, hb⟩; refine ⟨_, rfl, ?_⟩; have n0_ := Aside0.mk (below_step (by repeat (first | (with_reducible first | exact HB.out | apply below_alloc | apply pw_below_drewN | apply below_drew1) | exact HB.out)) hb); clear HB; have HB := n0_; clear n0_; (try clear hb); (try clear hb2); (try clear hk); (try clear hi)) | (go_at_call 10; (with_reducible refine (word_Reserved.calls a0 t137 _ A7.out).mono ?_); rintro e w' ⟨rfl, ⟨nd, rfl⟩⟩) | (go_at_call 11; (with_reducible refine (gramaryeref27_Reserved.calls k a0 t138 _ A8.out).mono ?_); rintro e w34 ⟨rfl, hb⟩; have n0_ := Aside0.mk (below_step (by repeat (first | (with_reducible first | exact HB.out | apply below_alloc | apply pw_below_drewN | apply below_drew1) | exact HB.out)) hb); clear HB; have HB := n0_; clear n0_; (try clear hb); (try clear hb2); (try clear hk); (try clear hi)))
      go_ret
      exact ⟨by first | rfl | (simp [errW_none, errW_some] <;> rfl) | (simp [*, errW_none, errW_some] <;> rfl), by repeat (first | (with_reducible first | exact HB.out | apply below_alloc | apply pw_below_drewN | apply below_drew1) | exact HB.out)⟩
  · rw [if_neg c6] at H
    have c6b0 : (t135 == t136) = false := by simpa using c6
    (try (have c6b1 : decide (t135 = t136) = false := by simpa using c6))
    (try (have c6b2 : (t135 == t136) = false := by simpa using c6))
    (try (have c6b3 : ¬ (t135 = t136) := by simpa using c6))
    clear c6
    obtain rfl := Option.some.inj H
    go_enter Tryd.func3, Tryd.ntmps3
    go_wp2_with (first | ((with_reducible refine gate_callee (f := 6) rfl ?_); refine goesL_ (some 9) rfl rfl Tryd.func6 (by kernel_rfl) rfl #[.string a0] rfl (by (try simp only [List.map_toArray, List.map_cons, List.map_nil]); first | done | rfl | (simp only [List.length_drop, List.length_take]; rfl)) ?_; (with_reducible refine (word_Points.calls k a0 t131 t132 _ A2.out).mono ?_); rintro e w' ⟨rfl, ⟨nd, rfl⟩⟩; refine ⟨_, rfl, ?_⟩) | ((with_reducible refine gate_callee (f := 7) rfl ?_); refine goesL_ (some 14) rfl rfl Tryd.func7 (by kernel_rfl) rfl #[.string a0] rfl (by (try simp only [List.map_toArray, List.map_cons, List.map_nil]); first | done | rfl | (simp only [List.length_drop, List.length_take]; rfl)) ?_; (with_reducible refine (gramaryeref27_Points.calls k a0 t133 t134 _ A3.out).mono ?_); rintro e w35 ⟨rfl, hb⟩; refine ⟨_, rfl, ?_⟩; have n0_ := Aside0.mk (below_step (by repeat (first | (with_reducible first | exact HB.out | apply below_alloc | apply pw_below_drewN | apply below_drew1) | exact HB.out)) hb); clear HB; have HB := n0_; clear n0_; (try clear hb); (try clear hb2); (try clear hk); (try clear hi)) | ((with_reducible refine gate_callee (f := 8) rfl ?_); refine goesL_ (some 18) rfl rfl Tryd.func8 (by kernel_rfl) rfl #[.string a0] rfl (by (try simp only [List.map_toArray, List.map_cons, List.map_nil]); first | done | rfl | (simp only [List.length_drop, List.length_take]; rfl)) ?_; (with_reducible refine (word_Is.calls k a0 t135 _ A4.out).mono ?_); rintro e w' ⟨rfl, ⟨nd, rfl⟩⟩; refine ⟨_, rfl, ?_⟩) | ((with_reducible refine gate_callee (f := 9) rfl ?_); refine goesL_ (some 20) rfl rfl Tryd.func9 (by kernel_rfl) rfl #[.string a0] rfl (by (try simp only [List.map_toArray, List.map_cons, List.map_nil]); first | done | rfl | (simp only [List.length_drop, List.length_take]; rfl)) ?_; (with_reducible refine (gramaryeref27_Is.calls k a0 t136 _ A5.out).mono ?_); rintro e w36 ⟨rfl, hb⟩; refine ⟨_, rfl, ?_⟩; have n0_ := Aside0.mk (below_step (by repeat (first | (with_reducible first | exact HB.out | apply below_alloc | apply pw_below_drewN | apply below_drew1) | exact HB.out)) hb); clear HB; have HB := n0_; clear n0_; (try clear hb); (try clear hb2); (try clear hk); (try clear hi)))
    go_ret
    exact ⟨by first | rfl | (simp [errW_none, errW_some] <;> rfl) | (simp [*, errW_none, errW_some] <;> rfl), by repeat (first | (with_reducible first | exact HB.out | apply below_alloc | apply pw_below_drewN | apply below_drew1) | exact HB.out)⟩

/-- THE ONE PURE STATEMENT of gramaryelaw27_WordTells: yours. -/
def gramaryelaw27_WordTells.Pure : Prop := ∀ (a0 : ByteArray), a0.size ≤ 140737488351232 → ∃ k, gramaryelaw27_WordTells.f k a0 = some true
theorem gramaryelaw27_WordTells.walk (P : gramaryelaw27_WordTells.Pure) (a0 : ByteArray) (w : World) (w0 : a0.size ≤ 140737488351232) (hGGKey : GKey w := by first | assumption | (unfold GKey at *; repeat (first | assumption | apply Holds.drewN | apply Holds.drew | apply Holds.alloc | exact Holds.drawn (by assumption) (by assumption) | exact Holds.aside (by assumption) (by assumption)))) (hGGResv : GResv w := by first | assumption | (unfold GResv at *; repeat (first | assumption | apply Holds.drewN | apply Holds.drew | apply Holds.alloc | exact Holds.drawn (by assumption) (by assumption) | exact Holds.aside (by assumption) (by assumption)))) :
    Calls Tryd.prog 3 #[.string a0] w fun e w' => e = .returned (.bool true) ∧ Below w.heap.size w w' := by
  obtain ⟨k, h⟩ := P a0 w0
  refine (gramaryelaw27_WordTells.calls k a0 true w h).mono ?_
  rintro e w' ⟨rfl, hd⟩
  exact ⟨rfl, hd⟩

end Go.Proofs.YthpiofcjckmifaaDoor.MWordTells
