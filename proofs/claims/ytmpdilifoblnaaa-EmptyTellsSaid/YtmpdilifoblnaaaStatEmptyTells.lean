-- A text of this claim (written by this repo's wip/myprint.py).
import Derived.Test.YtmpdilifoblnaaaRows
import Derived.Test.YtmpdilifoblnaaaMEmptyTellsx8
import Derived.Test.YtmpdilifoblnaaaReads
namespace Go.Proofs.Ytmpdilifoblnaaa.MEmptyTells
open Go.RowKit Go.Proofs.YtmpdilifoblnaaaW.PrintWords Go.Proofs.Ytmpdilifoblnaaa.Reads
set_option linter.unusedVariables false
def Good59 (x : S59) : Prop := (True) ∧ ((Lit.int .i64 x.f1).wf = true)
theorem fits59 : Fits Try.prog k59 Good59 59 :=
  fits_iso (fun x : S59 => (x.f0, x.f1)) (fun x_ => ⟨x_.1, x_.2⟩) (fun _ => rfl) (fits_struct Try.underlying59 (by kernel_rfl) (fitsF_cons 0 (fits_bool Try.prog Try.underlying4) rfl (by kernel_rfl) (fitsF_one 1 (fits_int Try.prog .i64 Try.underlying3) rfl (by kernel_rfl))))
def Good51 (x : S51) : Prop := ((Lit.int .i64 x.f0).wf = true) ∧ (x.f1.length * 16 ≤ 140737488351232 ∧ x.f1.length ≤ 9223372036854775807 ∧ ∀ x_ ∈ x.f1, Good59 x_)
theorem fits51 : Fits Try.prog k51 Good51 51 :=
  fits_iso (fun x : S51 => (x.f0, x.f1)) (fun x_ => ⟨x_.1, x_.2⟩) (fun _ => rfl) (fits_struct Try.underlying51 (by kernel_rfl) (fitsF_cons 0 (fits_int Try.prog .i64 Try.underlying3) rfl (by kernel_rfl) (fitsF_one 1 (fits_slice 59 16 Try.underlying38 (by kernel_rfl) (by kernel_rfl) fits59) rfl (by kernel_rfl))))

/-- THE ONE PURE STATEMENT of gramaryelaw10_EmptyTells. -/
def gramaryelaw10_EmptyTells.PureG : Prop := ∀ (a0_0 : Int) (a0_1 : Int) (l0_2 : List Int) (l0_3 : List (S51)) (l1 : List (S59)), ((Lit.int .i64 a0_0).wf = true) → ((Lit.int .i64 a0_1).wf = true) → (l0_2.length * 8 ≤ 140737488351232 ∧ l0_2.length ≤ 9223372036854775807 ∧ ∀ x_ ∈ l0_2, (Lit.int .i64 x_).wf = true) → (l0_3.length * 32 ≤ 140737488351232 ∧ l0_3.length ≤ 9223372036854775807 ∧ ∀ x_ ∈ l0_3, Good51 x_) → (l1.length * 16 ≤ 140737488351232 ∧ l1.length ≤ 9223372036854775807 ∧ ∀ x_ ∈ l1, Good59 x_) → ∃ k, gramaryelaw10_EmptyTells.f k a0_0 a0_1 l0_2 l0_3 l1 = some true
end Go.Proofs.Ytmpdilifoblnaaa.MEmptyTells
