/- MLeq: the laws of labels, in this seat's numbers. -/
import Derived.Test.YtbeeiecbbmiojaaLMTop
import Derived.RangeFuncNested
import Derived.RangeFuncFrom
import Derived.RangeFuncBound
import Derived.RangeFuncCalls
import Derived.RangeFuncLeaves
import Derived.Shelf.Abstract
import Derived.Shelf.RegionOpen
import Derived.OwnWalkIn
import Derived.TacticsInMore
import Derived.LoopNIn
import Derived.LoopIn
import Derived.Test.YtbeeiecbbmiojaaLMLab
namespace Go.Proofs.Ytbeeiecbbmiojaa.Lb
open Go.RowKit Go.ChangeShapes Go.WideShapes Go.Shelf
attribute [local go_sem] Oper.semAt_some
end Go.Proofs.Ytbeeiecbbmiojaa.Lb
namespace Go.Proofs.Ytbeeiecbbmiojaa.Lb
open Go.RowKit Go.ChangeShapes Go.WideShapes Go.Shelf
attribute [local go_sem] Oper.semAt_some
end Go.Proofs.Ytbeeiecbbmiojaa.Lb
