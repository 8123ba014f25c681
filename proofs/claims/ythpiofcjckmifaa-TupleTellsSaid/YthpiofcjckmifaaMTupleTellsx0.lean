-- A text of this claim (written by this repo's wip/myprint.py).
import Derived.Test.YthpiofcjckmifaaProg
import Derived.Below
import Derived.Deep.Draws
import Derived.Deep.AppendLies
import Derived.Maps.AppendAt
import Derived.OwnWalk
import Derived.Laws.BytesArg
import Derived.Laws.MakeOwn
import Derived.Laws.OwnMore
import Derived.Deep.OwnRows
import Derived.Tactics
import Derived.Lib.ConvBytes
import Derived.Laws.Slices
import Derived.WalkKit
import Derived.KernelRfl
import Derived.RowKit3
import Derived.Deep.LoopGhost
import Derived.Deep.QuietTactic
import Derived.BigQuiet
import Derived.WideLaws
import Derived.Deep.DeepCutAuto
import Derived.Deep.CutBlock
import Derived.Deep.RegionHeld3
import Derived.Laws.Rows
import Derived.Lib.AppendStr
import Derived.ArgAppend
import Derived.Laws.IdiomCopy
import Derived.OrdersHeld
import Derived.Laws.BitsLemmas
import Derived.RowKit
import Derived.Test.YthpiofcjckmifaaWWords
import Derived.Test.YthpiofcjckmifaaWLast
import Derived.Test.YthpiofcjckmifaaWTab
import Derived.Test.YthpiofcjckmifaaWFour
import Derived.Test.YthpiofcjckmifaaWQPut
import Derived.Test.YthpiofcjckmifaaWApart
import Derived.Test.YthpiofcjckmifaaWArr
import Derived.Test.YthpiofcjckmifaaWZeros
import Derived.Test.YthpiofcjckmifaaWFoot
import Derived.Test.YthpiofcjckmifaaWKept
import Derived.Test.YthpiofcjckmifaaWShare
import Derived.Test.YthpiofcjckmifaaWN
import Derived.Test.YthpiofcjckmifaaWFootNe
import Derived.Test.YthpiofcjckmifaaWAt
import Derived.Test.YthpiofcjckmifaaWEqStruct
import Derived.Test.YthpiofcjckmifaaWRepsOne
import Derived.Test.YthpiofcjckmifaaWInv
import Derived.Test.YthpiofcjckmifaaWInvWords
import Derived.Test.YthpiofcjckmifaaWGuard
import Derived.Test.YthpiofcjckmifaaWNEv
import Derived.Test.YthpiofcjckmifaaWMore
namespace Go.Proofs.Ythpiofcjckmifaa.MTupleTells
open Go.RowKit Go.Proofs.YthpiofcjckmifaaW.PrintWords Go.Proofs.YthpiofcjckmifaaW.PrintLast Go.Proofs.YthpiofcjckmifaaW.PrintMore
attribute [local go_sem] max2_int min2_int max_two min_two max_three min_three max_four min_four   -- for this text's walks alone
set_option linter.unusedVariables false
set_option linter.unusedSimpArgs false



def errW : Option Int → Value
  | none => .nilIface
  | some c => .iface 0 (.int .i64 c)
theorem errW_none : errW none = .nilIface := rfl
theorem errW_some (c : Int) : errW (some c) = .iface 0 (.int .i64 c) := rfl

theorem info3 : (Try.prog.info? 3).map (fun i => (i.zero, i.size, i.bytes)) = some (some (.int .i64 0), 1, 8) := by kernel_rfl
theorem info5 : (Try.prog.info? 5).map (fun i => (i.zero, i.size, i.bytes)) = some (some (.int .u8 0), 1, 1) := by kernel_rfl
-- the values' own types

end Go.Proofs.Ythpiofcjckmifaa.MTupleTells
