-- A text of this claim (written by this repo's wip/myprint.py).
import Derived.Test.YtmpdilifoblnaaaDoorRows
import Derived.Test.YtmpdilifoblnaaaDoorMTokenAgainx4
import Derived.Test.YtmpdilifoblnaaaDoorReads
namespace Go.Proofs.YtmpdilifoblnaaaDoor.MTokenAgain
open Go.RowKit Go.Proofs.YtmpdilifoblnaaaDoorW.PrintWords Go.Proofs.YtmpdilifoblnaaaDoor.Reads
set_option linter.unusedVariables false

/-- THE ONE PURE STATEMENT of gramaryelaw28_TokenAgain. -/
def gramaryelaw28_TokenAgain.PureG : Prop := ∀ (a0 : ByteArray), (a0.size ≤ 140737488351232) → ∃ k, gramaryelaw28_TokenAgain.f k a0 = some true
end Go.Proofs.YtmpdilifoblnaaaDoor.MTokenAgain
