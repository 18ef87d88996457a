/- Contracts of the library's slices.Values, AppendSeq, Collect and Sorted at ints: slices.Sorted(slices.Values(xs)). -/
import Derived.RangeFuncCalls
import Derived.RangeFuncLeaves
import Derived.RangeFuncBox
import Derived.Shelf.Abstract
import Derived.Shelf.RegionOpen
import Derived.WalkKit
import Derived.OwnWalkIn
import Derived.TacticsInMore
import Derived.LoopNIn
import Derived.LoopIn
import Derived.Test.YtkekamffmmokmaaSortI
import Derived.Test.YtkekamffmmokmaaSortNil
namespace Go.Proofs.Ytkekamffmmokmaa
open Go.RowKit Go.Tok Go.Shelf
set_option linter.unusedVariables false
set_option linter.unusedSimpArgs false
attribute [local go_sem] Oper.semAt_some
theorem gr_of_below {w W : World} (h : Below w.heap.size w W) : Gr w W := by unfold Gr; exact h
end Go.Proofs.Ytkekamffmmokmaa
