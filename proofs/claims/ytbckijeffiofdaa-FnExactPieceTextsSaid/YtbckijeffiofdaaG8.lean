/- The walks of functions, each with its Lean function: slices.medianAdjacentCmpFunc[[]int], slices.choosePivotCmpFunc[[]int], slices.reverseRangeCmpFunc[[]int], slices.partialInsertionSortCmpFunc[[]int], slices.partitionEqualCmpFunc[[]int], slices.partitionCmpFunc[[]int], slices.pdqsortCmpFunc[[]int], slices.SortFunc[[][]int,[]int], cmp.isNaN[int], cmp.Compare[int]. No condition. -/
import Derived.Test.YtbckijeffiofdaaG1
import Derived.Test.YtbckijeffiofdaaG2
import Derived.Test.YtbckijeffiofdaaG3
import Derived.Test.YtbckijeffiofdaaG4
import Derived.Test.YtbckijeffiofdaaG5
import Derived.Test.YtbckijeffiofdaaG6
import Derived.Test.YtbckijeffiofdaaG7
import Derived.Test.YtbckijeffiofdaaALC
import Derived.Test.YtbckijeffiofdaaProg
import Derived.KernelRfl
namespace Go.Proofs.Ytbckijeffiofdaa.AL
open Go Go.RowKit
set_option linter.unusedVariables false
set_option linter.unusedSimpArgs false
set_option maxRecDepth 4096
theorem ze_3 : zeroT Try.prog 3 = some (.int .i64 0) := by kernel_rfl
end Go.Proofs.Ytbckijeffiofdaa.AL
