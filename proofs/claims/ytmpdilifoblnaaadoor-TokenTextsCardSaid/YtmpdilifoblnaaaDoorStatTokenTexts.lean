-- A text of this claim (written by this repo's wip/myprint.py).
import Derived.Test.YtmpdilifoblnaaaDoorRows
import Derived.Test.YtmpdilifoblnaaaDoorMTokenTextsx4
import Derived.Test.YtmpdilifoblnaaaDoorReads
namespace Go.Proofs.YtmpdilifoblnaaaDoor.MTokenTexts
open Go.RowKit Go.Proofs.YtmpdilifoblnaaaDoorW.PrintWords Go.Proofs.YtmpdilifoblnaaaDoor.Reads
set_option linter.unusedVariables false

/-- THE ONE PURE STATEMENT of gramaryelaw28_TokenTexts. -/
def gramaryelaw28_TokenTexts.PureG : Prop := ∀ (a0_0 : Int) (a0_1 : ByteArray) (a0_2 : Int) (a0_3 : Int), ((Lit.int .i64 a0_0).wf = true) → (a0_1.size ≤ 140737488351232) → ((Lit.int .i64 a0_2).wf = true) → ((Lit.int .i64 a0_3).wf = true) → ∃ k, gramaryelaw28_TokenTexts.f k a0_0 a0_1 a0_2 a0_3 = some true
end Go.Proofs.YtmpdilifoblnaaaDoor.MTokenTexts
