-- A text of this claim (written by this repo's wip/myprint.py).
import Derived.Test.YthpiofcjckmifaaDoorRows
import Derived.Test.YthpiofcjckmifaaDoorMWordBackx3
import Derived.Test.YthpiofcjckmifaaDoorReads
namespace Go.Proofs.YthpiofcjckmifaaDoor.MWordBack
open Go.RowKit Go.Proofs.YthpiofcjckmifaaDoorW.PrintWords Go.Proofs.YthpiofcjckmifaaDoor.Reads
set_option linter.unusedVariables false

/-- THE ONE PURE STATEMENT of gramaryelaw27_WordBack. -/
def gramaryelaw27_WordBack.PureG : Prop := ∀ (a0 : ByteArray), (a0.size ≤ 140737488351232) → ∃ k, gramaryelaw27_WordBack.f k a0 = some true
end Go.Proofs.YthpiofcjckmifaaDoor.MWordBack
