-- A text of this claim (written by this repo's wip/myprint.py).
import Derived.Test.YtmpdilifoblnaaaDoorRows
import Derived.Test.YtmpdilifoblnaaaDoorMTokenAllx6
import Derived.Test.YtmpdilifoblnaaaDoorReads
namespace Go.Proofs.YtmpdilifoblnaaaDoor.MTokenAll
open Go.RowKit Go.Proofs.YtmpdilifoblnaaaDoorW.PrintWords Go.Proofs.YtmpdilifoblnaaaDoor.Reads
set_option linter.unusedVariables false

/-- THE ONE PURE STATEMENT of gramaryelaw28_TokenAll. -/
def gramaryelaw28_TokenAll.PureG : Prop := ∀ (a0 : ByteArray), (a0.size ≤ 140737488351232) → ∃ k, gramaryelaw28_TokenAll.f k a0 = some true
end Go.Proofs.YtmpdilifoblnaaaDoor.MTokenAll
