/-  -/
import Derived.Lib.SmallJoins
import Derived.WideShapes
import Derived.Lib.Strings
import Derived.Test.YtmpdilifoblnaaaZReachWaysWWords
import Derived.Test.YtmpdilifoblnaaaZReachWaysWMore
namespace Go.Proofs.Ytmpdilifoblnaaa.Base
open Go.RowKit Go.Proofs.YtmpdilifoblnaaaW.PrintWords
theorem w64 {x : Int} (h0 : -9223372036854775808 ≤ x) (h1 : x ≤ 9223372036854775807) : wrap64 x = x := by
  unfold wrap64; omega
end Go.Proofs.Ytmpdilifoblnaaa.Base
