import Derived.Test.YthcogpecnmhhlaaRows
import Derived.WalkKit
import Derived.ProofKit
import Derived.OpenShut
import Derived.ShutString
import Derived.ChangeOld
import Derived.Below
import Derived.SizedLaws
import Derived.Carry
import Derived.Test.YthcogpecnmhhlaaEngR
import Derived.Test.YthcogpecnmhhlaaCodYb
import Derived.Test.YthcogpecnmhhlaaChecked
/-
CodeStays holds: whatever program is handed in, the law answers true and what it read is as it was.
-/
namespace Go.Proofs.Ythcogpecnmhhlaa.codeStays
open Go.ChangeShapes Go.WideShapes Go.ChangeAt Go.RowKit Go.Eng
open Go.ChangeMaps (open_string shut_string)
set_option linter.all false
set_option maxRecDepth 100000
def Good45 (x : Fld) : Prop := (x.Name.size ≤ 140737488351232) ∧ (x.Ty.size ≤ 140737488351232)
theorem fits45 : FitsE Try.prog Fld.enc Good45 45 :=
  fitsE_iso (fun x : ByteArray × ByteArray => (⟨x.1, x.2⟩ : Fld)) (fun _ => rfl) (fun _ h => h) (fitsE_struct 2 Try.underlying45 (by kernel_rfl) (fitsEF_cons 0 1 1 (fitsE_string Try.prog Try.underlying9) (fun _ => rfl) rfl (by kernel_rfl) (fitsEF_one 1 1 (fitsE_string Try.prog Try.underlying9) rfl (by kernel_rfl))))
def Good42 (x : Str) : Prop := (x.Name.size ≤ 140737488351232) ∧ (x.L.length ≤ 140737488351232 ∧ ∀ y ∈ x.L, Good45 y)
theorem fits42 : FitsE Try.prog Str.enc Good42 42 :=
  fitsE_iso (fun x : ByteArray × List (Fld) => (⟨x.1, x.2⟩ : Str)) (fun _ => rfl) (fun _ h => h) (fitsE_struct 2 Try.underlying42 (by kernel_rfl) (fitsEF_cons 0 1 1 (fitsE_string Try.prog Try.underlying9) (fun _ => rfl) rfl (by kernel_rfl) (fitsEF_one 1 1 (fitsE_slice 2 (by decide) (fun _ => rfl) Try.underlying40 (by kernel_rfl) (of_decide_eq_true (by kernel_rfl)) fits45) rfl (by kernel_rfl))))
def Good47 (x : Fun) : Prop := (x.Name.size ≤ 140737488351232) ∧ (x.Params.length ≤ 140737488351232 ∧ ∀ y ∈ x.Params, Good45 y) ∧ (x.Result.size ≤ 140737488351232) ∧ ((Lit.int .i64 x.Body).wf = true)
theorem fits47 : FitsE Try.prog Fun.enc Good47 47 :=
  fitsE_iso (fun x : ByteArray × List (Fld) × ByteArray × Int => (⟨x.1, x.2.1, x.2.2.1, x.2.2.2⟩ : Fun)) (fun _ => rfl) (fun _ h => h) (fitsE_struct 4 Try.underlying47 (by kernel_rfl) (fitsEF_cons 0 1 3 (fitsE_string Try.prog Try.underlying9) (fun _ => rfl) rfl (by kernel_rfl) (fitsEF_cons 1 1 2 (fitsE_slice 2 (by decide) (fun _ => rfl) Try.underlying40 (by kernel_rfl) (of_decide_eq_true (by kernel_rfl)) fits45) (fun _ => rfl) rfl (by kernel_rfl) (fitsEF_cons 2 1 1 (fitsE_string Try.prog Try.underlying9) (fun _ => rfl) rfl (by kernel_rfl) (fitsEF_one 3 1 (fitsE_int Try.prog .i64 Try.underlying3) rfl (by kernel_rfl))))))
def Good59 (x : Cas) : Prop := (x.L.length ≤ 140737488351232 ∧ ∀ y ∈ x.L, (Lit.int .i64 y).wf = true) ∧ ((Lit.int .i64 x.Body).wf = true)
theorem fits59 : FitsE Try.prog Cas.enc Good59 59 :=
  fitsE_iso (fun x : List (Int) × Int => (⟨x.1, x.2⟩ : Cas)) (fun _ => rfl) (fun _ h => h) (fitsE_struct 2 Try.underlying59 (by kernel_rfl) (fitsEF_cons 0 1 1 (fitsE_slice 1 (by decide) (fun _ => rfl) Try.underlying38 (by kernel_rfl) (of_decide_eq_true (by kernel_rfl)) (fitsE_int Try.prog .i64 Try.underlying3)) (fun _ => rfl) rfl (by kernel_rfl) (fitsEF_one 1 1 (fitsE_int Try.prog .i64 Try.underlying3) rfl (by kernel_rfl))))
def Good50 (x : Nod) : Prop := ((Lit.int .i64 x.Kind).wf = true) ∧ ((Lit.int .i64 x.N).wf = true) ∧ (x.Name.size ≤ 140737488351232) ∧ ((Lit.int .i64 x.A).wf = true) ∧ ((Lit.int .i64 x.B).wf = true) ∧ ((Lit.int .i64 x.C).wf = true) ∧ (x.L.length ≤ 140737488351232 ∧ ∀ y ∈ x.L, (Lit.int .i64 y).wf = true) ∧ (x.Cases.length ≤ 140737488351232 ∧ ∀ y ∈ x.Cases, Good59 y)
theorem fits50 : FitsE Try.prog Nod.enc Good50 50 :=
  fitsE_iso (fun x : Int × Int × ByteArray × Int × Int × Int × List (Int) × List (Cas) => (⟨x.1, x.2.1, x.2.2.1, x.2.2.2.1, x.2.2.2.2.1, x.2.2.2.2.2.1, x.2.2.2.2.2.2.1, x.2.2.2.2.2.2.2⟩ : Nod)) (fun _ => rfl) (fun _ h => h) (fitsE_struct 8 Try.underlying50 (by kernel_rfl) (fitsEF_cons 0 1 7 (fitsE_int Try.prog .i64 Try.underlying3) (fun _ => rfl) rfl (by kernel_rfl) (fitsEF_cons 1 1 6 (fitsE_int Try.prog .i64 Try.underlying3) (fun _ => rfl) rfl (by kernel_rfl) (fitsEF_cons 2 1 5 (fitsE_string Try.prog Try.underlying9) (fun _ => rfl) rfl (by kernel_rfl) (fitsEF_cons 3 1 4 (fitsE_int Try.prog .i64 Try.underlying3) (fun _ => rfl) rfl (by kernel_rfl) (fitsEF_cons 4 1 3 (fitsE_int Try.prog .i64 Try.underlying3) (fun _ => rfl) rfl (by kernel_rfl) (fitsEF_cons 5 1 2 (fitsE_int Try.prog .i64 Try.underlying3) (fun _ => rfl) rfl (by kernel_rfl) (fitsEF_cons 6 1 1 (fitsE_slice 1 (by decide) (fun _ => rfl) Try.underlying38 (by kernel_rfl) (of_decide_eq_true (by kernel_rfl)) (fitsE_int Try.prog .i64 Try.underlying3)) (fun _ => rfl) rfl (by kernel_rfl) (fitsEF_one 7 1 (fitsE_slice 2 (by decide) (fun _ => rfl) Try.underlying48 (by kernel_rfl) (of_decide_eq_true (by kernel_rfl)) fits59) rfl (by kernel_rfl))))))))))
def Good26 (x : Cod) : Prop := (x.Name.size ≤ 140737488351232) ∧ (x.Structs.length ≤ 140737488351232 ∧ ∀ y ∈ x.Structs, Good42 y) ∧ (x.Funcs.length ≤ 140737488351232 ∧ ∀ y ∈ x.Funcs, Good47 y) ∧ (x.L.length ≤ 140737488351232 ∧ ∀ y ∈ x.L, Good50 y)
theorem fits26 : FitsE Try.prog Cod.enc Good26 26 :=
  fitsE_iso (fun x : ByteArray × List (Str) × List (Fun) × List (Nod) => (⟨x.1, x.2.1, x.2.2.1, x.2.2.2⟩ : Cod)) (fun _ => rfl) (fun _ h => h) (fitsE_struct 4 Try.underlying26 (by kernel_rfl) (fitsEF_cons 0 1 3 (fitsE_string Try.prog Try.underlying9) (fun _ => rfl) rfl (by kernel_rfl) (fitsEF_cons 1 1 2 (fitsE_slice 2 (by decide) (fun _ => rfl) Try.underlying22 (by kernel_rfl) (of_decide_eq_true (by kernel_rfl)) fits42) (fun _ => rfl) rfl (by kernel_rfl) (fitsEF_cons 2 1 1 (fitsE_slice 4 (by decide) (fun _ => rfl) Try.underlying23 (by kernel_rfl) (of_decide_eq_true (by kernel_rfl)) fits47) (fun _ => rfl) rfl (by kernel_rfl) (fitsEF_one 3 1 (fitsE_slice 8 (by decide) (fun _ => rfl) Try.underlying24 (by kernel_rfl) (of_decide_eq_true (by kernel_rfl)) fits50) rfl (by kernel_rfl))))))
theorem fit {c : Cod} (h : Good26 c) : c.Fit := by
  obtain ⟨h1, ⟨h2, h3⟩, ⟨h4, h5⟩, h6, h7⟩ := h
  refine ⟨by omega, by omega, fun s hs => ?_, by omega, fun s hs => ?_, by omega, fun n hn => ?_⟩
  · obtain ⟨_, a, _⟩ := h3 s hs; omega
  · obtain ⟨_, ⟨a, _⟩, _⟩ := h5 s hs; omega
  · obtain ⟨_, _, _, _, _, _, ⟨a, _⟩, b, d⟩ := h7 n hn
    exact ⟨by omega, by omega, fun x hx => by obtain ⟨⟨e, _⟩, _⟩ := d x hx; omega⟩
theorem own : ownKnob Try.prog.godebug = none := by kernel_rfl
theorem laidOut : laidOutB Try.prog = true := by kernel_rfl
theorem contract (H : Type) (enc : TypeId × Value → H) (W : World) (base : Nat) (args : Array Value) (ds gs : List (DataW H)) (before : List MemPlace)
    (hval : ∀ (j : Nat) t v, Try.f4.params[j]? = some t → args[j]? = some v → Value.okWide Try.prog W .any base t v)
    (hW : DataW.Whole enc Try.prog Try.f4.params.toList Rows.codeStaysSpec.vars false W args.toList ds gs before)
    (hsz : (DataW.weightsEach Try.prog (Try.f4.params.toList ++ Rows.codeStaysSpec.plain.varTypes Try.prog) (ds ++ gs)).all (· ≤ reachBytes) = true) :
    Calls Try.prog 4 args W fun e W' => ∃ v, e = .returned v ∧ Rows.codeStaysSpec.post enc Try.prog Try.f4 false true false false W args v W' := by
  have hW' := hW
  obtain ⟨p, q, hA0, hV, rfl, hfz, hnd⟩ := hW
  have hA : DataW.TrodAll enc Try.prog W 0 (fun _ => true) true Try.f4.params.toList args.toList ds p := hA0
  rw [Try.params4] at hA hval hsz
  obtain ⟨v0, vs0, d0, ds0, p0, q0, hargs, rfl, rfl, h0, r0⟩ := trodAll_cons hA
  obtain ⟨rfl, rfl, rfl⟩ := trodAll_nil r0
  obtain rfl : args = #[v0] := by cases args; simp_all
  obtain ⟨rfl, rfl⟩ := trodVars_none hV
  have k0 := h0
  have lt0 : ∀ x ∈ p0, x.block < W.heap.size := by obtain ⟨m, hm⟩ := k0; exact DataW.trod_lt m _ _ _ hm
  have z0 := weightsE_at hsz (j := 0) (t := 26) rfl rfl
  obtain ⟨x0, hK0, hG0⟩ := openE_at fits26 h0 z0
  obtain ⟨cs0, rfl, hsize0⟩ := okWide_struct Try.underlying26 (hval 0 26 v0 rfl rfl)
  have T0 := RelL.toAgg (us := cs0) hK0
  clear hA0 hval hsz
  have hp := stays_pure x0 (fit hG0)
  refine (hp.2 (fun b => b < W.heap.size) W #[.agg cs0] (fun _ h => h) ⟨rfl, ?_⟩).mono fun e W' h => ?_
  · intro i x hx
    match i, hx with
    | 0, hx => simp only [List.getElem?_cons_zero, List.getElem?_cons_succ, Option.some.injEq] at hx; subst hx; exact ⟨_, rfl, T0⟩
    | i + 1, hx => simp at hx
  · obtain ⟨v, rfl, bel, hr⟩ := h
    cases hr
    exact ⟨_, rfl, _, _, _, [], _, [], hW', trodAll_mk1 (shut_bool Try.underlying4 _), (trodAll_cons_mk (Below.trod laidOut (by kernel_rfl) (of_decide_eq_true (by kernel_rfl)) k0 bel lt0) trodAll_mk0), rfl, bel.frame _, fun h => by cases h⟩
theorem lifted (os : Os) (started : os.Started) (H : Type) (enc : TypeId × Value → H) :
    ReturnsInHanded {} Try.checked os 4 .any (Rows.codeStaysSpec.pre6 enc Try.prog Try.f4 Rows.codeStaysRow.domain false) (Rows.codeStaysSpec.post enc Try.prog Try.f4 false true false false) := by
  refine returnsInHanded_of_change_sized (C := Try.checked) own started (by kernel_rfl) Try.func4
    (ChangeSpec.witness6 (enc := enc) (C := Try.checked) false ⟨#[], #[.agg #[.string ByteArray.empty, .slice none 0 0, .slice none 0 0, .slice none 0 0]], []⟩ 8 (by kernel_rfl) (by kernel_rfl) (by kernel_rfl) (by kernel_rfl)) ?_
  intro W base args ds gs before hval hW hcnd hsz _
  exact contract H enc W base args ds gs before hval hW hsz
theorem over : Rows.codeStaysRow.holds Try.pinned (OpenSpec.ofChange Rows.codeStaysSpec) :=
  OpenClaim.holds_of_wide 4 Try.f4 rfl rfl rfl rfl rfl rfl rfl ⟨rfl, rfl, rfl, rfl, rfl⟩ rfl rfl rfl rfl rfl (by kernel_rfl) Try.func4 (by kernel_rfl)
    (of_decide_eq_true (by kernel_rfl)) (by unfold Func.isWrapper; first | (rw [if_pos (by decide +kernel)]; kernel_rfl) | (rw [if_neg (by decide +kernel)]; exact ⟨rfl, rfl⟩))
    (fun os started H enc _ => lifted os started H enc)
theorem proved : Rows.CodeStaysSaid := over
end Go.Proofs.Ythcogpecnmhhlaa.codeStays
namespace Go.Proofs.Ythcogpecnmhhlaa
theorem codeStays_holds : Rows.CodeStaysSaid := codeStays.proved
#print axioms codeStays_holds
end Go.Proofs.Ythcogpecnmhhlaa

