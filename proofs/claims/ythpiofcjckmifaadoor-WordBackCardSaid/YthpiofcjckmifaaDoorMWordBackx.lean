-- A text of this claim (written by this repo's wip/myprint.py).
import Derived.Test.YthpiofcjckmifaaDoorMWordBackx0
import Derived.Test.YthpiofcjckmifaaDoorMWordBackx1
import Derived.Test.YthpiofcjckmifaaDoorMWordBackx2
import Derived.Test.YthpiofcjckmifaaDoorMWordBackx3
namespace Go.Proofs.YthpiofcjckmifaaDoor.MWordBack
open Go.RowKit Go.Proofs.YthpiofcjckmifaaDoorW.PrintWords Go.Proofs.YthpiofcjckmifaaDoorW.PrintLast Go.Proofs.YthpiofcjckmifaaDoorW.PrintMore Go.Proofs.YthpiofcjckmifaaDoor.Fun Go.Proofs.YthpiofcjckmifaaDoor.Glob
attribute [local go_sem] max2_int min2_int max_two min_two max_three min_three max_four min_four   -- for this text's walks alone
set_option linter.unusedVariables false
set_option linter.unusedSimpArgs false

end Go.Proofs.YthpiofcjckmifaaDoor.MWordBack
