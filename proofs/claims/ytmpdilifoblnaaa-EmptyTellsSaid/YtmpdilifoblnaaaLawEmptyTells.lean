-- A text of this claim (written by this repo's wip/myprint.py).
import Derived.Test.YtmpdilifoblnaaaPureEmptyTells
import Derived.WalkKit
import Derived.ProofKit
import Derived.OpenShut
import Derived.ShutString
import Derived.ChangeOld
import Derived.Below
import Derived.SizedLaws
import Derived.Carry
namespace Go.Proofs.Ytmpdilifoblnaaa.emptyTells
open Go.ChangeShapes Go.WideShapes Go.ChangeAt Go.RowKit Go.Proofs.Ytmpdilifoblnaaa.MEmptyTells Go.Proofs.YtmpdilifoblnaaaW.PrintWords Go.Proofs.Ytmpdilifoblnaaa.Reads
open Go.ChangeMaps (open_string shut_string)
set_option linter.unusedVariables false
set_option linter.unusedSimpArgs false
theorem own : ownKnob Try.prog.godebug = none := by kernel_rfl
theorem laidOut : laidOutB Try.prog = true := by kernel_rfl
set_option maxRecDepth 100000 in
theorem contract (H : Type) (enc : TypeId × Value → H) (W : World) (base : Nat) (args : Array Value) (ds gs : List (DataW H)) (before : List MemPlace)
    (hval : ∀ (j : Nat) t v, Try.f5.params[j]? = some t → args[j]? = some v → Value.okWide Try.prog W .any base t v)
    (hW : DataW.Whole enc Try.prog Try.f5.params.toList Rows.emptyTellsSpec.vars false W args.toList ds gs before)
    (hsz : (DataW.weightsEach Try.prog (Try.f5.params.toList ++ Rows.emptyTellsSpec.plain.varTypes Try.prog) (ds ++ gs)).all (· ≤ reachBytes) = true) :
    Calls Try.prog 5 args W fun e W' => ∃ v, e = .returned v ∧ Rows.emptyTellsSpec.post enc Try.prog Try.f5 false true false false W args v W' := by
  have hW' := hW
  obtain ⟨p, q, hA0, hV, rfl, hfz, hnd⟩ := hW
  have hA : DataW.TrodAll enc Try.prog W 0 (fun _ => true) true Try.f5.params.toList args.toList ds p := hA0
  rw [Try.params5] at hA hval hsz
  obtain ⟨v0, vs0, d0, ds0, p0, q0, hargs, rfl, rfl, h0, r0⟩ := trodAll_cons hA
  obtain ⟨v1, vs1, d1, ds1, p1, q1, rfl, rfl, rfl, h1, r1⟩ := trodAll_cons r0
  obtain ⟨rfl, rfl, rfl⟩ := trodAll_nil r1
  obtain rfl : args = #[v0, v1] := by cases args; simp_all
  obtain ⟨rfl, rfl⟩ := trodVars_none hV
  have k0 := h0
  have lt0 : ∀ x ∈ p0, x.block < W.heap.size := by obtain ⟨m, hm⟩ := k0; exact DataW.trod_lt m _ _ _ hm
  have z0 := weights_at hsz (j := 0) (t := 25) rfl rfl
  obtain ⟨x0, hK0, hG0⟩ := open_at (fits_struct Try.underlying25 (by kernel_rfl) (fitsF_cons 0 (fits_int Try.prog .i64 Try.underlying3) rfl (by kernel_rfl) (fitsF_cons 1 (fits_int Try.prog .i64 Try.underlying3) rfl (by kernel_rfl) (fitsF_cons 2 (fits_slice 3 8 Try.underlying22 (by kernel_rfl) (by kernel_rfl) (fits_int Try.prog .i64 Try.underlying3)) rfl (by kernel_rfl) (fitsF_one 3 (fits_slice 51 32 Try.underlying23 (by kernel_rfl) (by kernel_rfl) fits51) rfl (by kernel_rfl)))))) h0 z0
  have hO0 : ∃ A0_0 c0_0 A0_1 c0_1, v0.cells.toList = [.int .i64 x0.1, .int .i64 x0.2.1, .slice A0_0 x0.2.2.1.length c0_0, .slice A0_1 x0.2.2.2.length c0_1] ∧ x0.2.2.1.length ≤ c0_0 ∧ Kd.C (Kd.int .i64) W A0_0 x0.2.2.1.length x0.2.2.1 ∧ x0.2.2.2.length ≤ c0_1 ∧ Kd.C k51 W A0_1 x0.2.2.2.length x0.2.2.2 := by
    obtain ⟨_, _, hq_, rfl, ⟨_, _, rfl, rfl, ⟨_, _, rfl, ⟨A0_0, c0_0, rfl, l0_0, g0_0⟩, ⟨A0_1, c0_1, rfl, l0_1, g0_1⟩⟩⟩⟩ := hK0
    exact ⟨A0_0, c0_0, A0_1, c0_1, hq_, l0_0, g0_0, l0_1, g0_1⟩
  obtain ⟨A0_0, c0_0, A0_1, c0_1, hcs0, l0_0, g0_0, l0_1, g0_1⟩ := hO0
  obtain ⟨cs0, rfl, hsize0⟩ := okWide_struct Try.underlying25 (hval 0 25 v0 rfl rfl)
  obtain rfl : cs0 = #[.int .i64 x0.1, .int .i64 x0.2.1, .slice A0_0 x0.2.2.1.length c0_0, .slice A0_1 x0.2.2.2.length c0_1] := Array.toList_inj.1 hcs0
  obtain ⟨hG0_0, hG0_1, hG0_2, hG0_3⟩ := hG0
  have k1 := h1
  have lt1 : ∀ x ∈ p1, x.block < W.heap.size := by obtain ⟨m, hm⟩ := k1; exact DataW.trod_lt m _ _ _ hm
  have z1 := weights_at hsz (j := 1) (t := 38) rfl rfl
  obtain ⟨x1, hK1, hG1⟩ := open_at (fits_slice 59 16 Try.underlying38 (by kernel_rfl) (by kernel_rfl) fits59) h1 z1
  obtain ⟨s1, len1, cap1, rfl⟩ := okWide_slice Try.underlying38 (hval 1 38 v1 rfl rfl)
  obtain ⟨A1, c1, hcs1, l1_0, g1_0⟩ := hK1
  simp only [Value.cells, List.cons.injEq, Value.slice.injEq, and_true] at hcs1
  obtain ⟨rfl, rfl, rfl⟩ := hcs1
  clear hA0 hval hsz
  obtain ⟨k, h⟩ := Pure.EmptyTells (x0.1) (x0.2.1) (x0.2.2.1) (x0.2.2.2) x1 hG0_0 hG0_1 hG0_2 hG0_3 hG1
  refine (gramaryelaw10_EmptyTells.calls k (x0.1) (x0.2.1) A0_0 c0_0 (x0.2.2.1) A0_1 c0_1 (x0.2.2.2) s1 cap1 x1 true W g0_0 l0_0 g0_1 l0_1 g1_0 l1_0 h).mono fun e W' ⟨he, bel0⟩ => ?_
  have bel : Below W.heap.size W W' := bel0
  subst he
  exact ⟨_, rfl, _, _, _, [], _, [], hW', trodAll_mk1 (shut_bool Try.underlying4 _), (trodAll_cons_mk (Below.trod laidOut (by kernel_rfl) (of_decide_eq_true (by kernel_rfl)) k0 bel lt0) (trodAll_cons_mk (Below.trod laidOut (by kernel_rfl) (of_decide_eq_true (by kernel_rfl)) k1 bel lt1) trodAll_mk0)), rfl, bel.frame _, fun h => by cases h⟩
set_option maxRecDepth 100000 in
theorem lifted (os : Os) (started : os.Started) (H : Type) (enc : TypeId × Value → H) :
    ReturnsInHanded {} Try.checked os 5 .any (Rows.emptyTellsSpec.pre6 enc Try.prog Try.f5 Rows.emptyTellsRow.domain false) (Rows.emptyTellsSpec.post enc Try.prog Try.f5 false true false false) := by
  refine returnsInHanded_of_change_sized (C := Try.checked) own started (by kernel_rfl) Try.func5
    (ChangeSpec.witness6 (enc := enc) (C := Try.checked) false ⟨#[], #[.agg #[.int .i64 0, .int .i64 0, .slice none 0 0, .slice none 0 0], .slice none 0 0], []⟩ 8 (by kernel_rfl) (by kernel_rfl) (by kernel_rfl) (by kernel_rfl)) ?_
  intro W base args ds gs before hval hW hcnd hsz _
  exact contract H enc W base args ds gs before hval hW hsz
theorem over : Rows.emptyTellsRow.holds Try.pinned (OpenSpec.ofChange Rows.emptyTellsSpec) :=
  OpenClaim.holds_of_wide 5 Try.f5 rfl rfl rfl rfl rfl rfl rfl ⟨rfl, rfl, rfl, rfl, rfl⟩ rfl rfl rfl rfl rfl (by kernel_rfl) Try.func5 (by kernel_rfl)
    (of_decide_eq_true (by kernel_rfl)) (by unfold Func.isWrapper; first | (rw [if_pos (by decide +kernel)]; kernel_rfl) | (rw [if_neg (by decide +kernel)]; exact ⟨rfl, rfl⟩))
    (fun os started H enc _ => lifted os started H enc)
theorem proved : Rows.EmptyTellsSaid := over
#print axioms proved
end Go.Proofs.Ytmpdilifoblnaaa.emptyTells
namespace Go.Proofs.Ytmpdilifoblnaaa
theorem emptyTells_holds : Rows.EmptyTellsSaid := emptyTells.proved
end Go.Proofs.Ytmpdilifoblnaaa
