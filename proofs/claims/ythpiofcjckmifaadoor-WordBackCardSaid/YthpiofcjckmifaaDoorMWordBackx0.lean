-- A text of this claim (written by this repo's wip/myprint.py).
import Derived.Test.YthpiofcjckmifaaDoorProg
import Derived.Below
import Derived.Deep.Draws
import Derived.Deep.AppendLies
import Derived.Maps.AppendAt
import Derived.OwnWalk
import Derived.Laws.BytesArg
import Derived.Laws.MakeOwn
import Derived.Laws.OwnMore
import Derived.Deep.OwnRows
import Derived.Tactics
import Derived.Lib.ConvBytes
import Derived.Laws.Slices
import Derived.WalkKit
import Derived.KernelRfl
import Derived.RowKit3
import Derived.Deep.LoopGhost
import Derived.Deep.QuietTactic
import Derived.BigQuiet
import Derived.WideLaws
import Derived.Deep.DeepCutAuto
import Derived.Deep.CutBlock
import Derived.Deep.RegionHeld3
import Derived.Laws.Rows
import Derived.Lib.AppendStr
import Derived.ArgAppend
import Derived.Laws.IdiomCopy
import Derived.OrdersHeld
import Derived.Laws.BitsLemmas
import Derived.RowKit
import Derived.Test.YthpiofcjckmifaaDoorFun
import Derived.Test.YthpiofcjckmifaaDoorGlob
import Derived.Test.YthpiofcjckmifaaDoorWWords
import Derived.Test.YthpiofcjckmifaaDoorWLast
import Derived.Test.YthpiofcjckmifaaDoorWTab
import Derived.Test.YthpiofcjckmifaaDoorWFour
import Derived.Test.YthpiofcjckmifaaDoorWQPut
import Derived.Test.YthpiofcjckmifaaDoorWApart
import Derived.Test.YthpiofcjckmifaaDoorWArr
import Derived.Test.YthpiofcjckmifaaDoorWZeros
import Derived.Test.YthpiofcjckmifaaDoorWFoot
import Derived.Test.YthpiofcjckmifaaDoorWKept
import Derived.Test.YthpiofcjckmifaaDoorWShare
import Derived.Test.YthpiofcjckmifaaDoorWN
import Derived.Test.YthpiofcjckmifaaDoorWFootNe
import Derived.Test.YthpiofcjckmifaaDoorWAt
import Derived.Test.YthpiofcjckmifaaDoorWEqStruct
import Derived.Test.YthpiofcjckmifaaDoorWRepsOne
import Derived.Test.YthpiofcjckmifaaDoorWInv
import Derived.Test.YthpiofcjckmifaaDoorWInvWords
import Derived.Test.YthpiofcjckmifaaDoorWGuard
import Derived.Test.YthpiofcjckmifaaDoorWNEv
import Derived.Test.YthpiofcjckmifaaDoorWMore
namespace Go.Proofs.YthpiofcjckmifaaDoor.MWordBack
open Go.RowKit Go.Proofs.YthpiofcjckmifaaDoorW.PrintWords Go.Proofs.YthpiofcjckmifaaDoorW.PrintLast Go.Proofs.YthpiofcjckmifaaDoorW.PrintMore Go.Proofs.YthpiofcjckmifaaDoor.Fun Go.Proofs.YthpiofcjckmifaaDoor.Glob
attribute [local go_sem] max2_int min2_int max_two min_two max_three min_three max_four min_four   -- for this text's walks alone
set_option linter.unusedVariables false
set_option linter.unusedSimpArgs false



def errW : Option Int → Value
  | none => .nilIface
  | some c => .iface 0 (.int .i64 c)
theorem errW_none : errW none = .nilIface := rfl
theorem errW_some (c : Int) : errW (some c) = .iface 0 (.int .i64 c) := rfl

-- the values' own types

end Go.Proofs.YthpiofcjckmifaaDoor.MWordBack
