/- The walks of functions, each with its Lean function: slices.medianAdjacentCmpFunc[[]int], slices.choosePivotCmpFunc[[]int], slices.reverseRangeCmpFunc[[]int], slices.partialInsertionSortCmpFunc[[]int], slices.partitionEqualCmpFunc[[]int], slices.partitionCmpFunc[[]int], slices.pdqsortCmpFunc[[]int], slices.SortFunc[[][]int,[]int], cmp.isNaN[int], cmp.Compare[int]. No condition. -/
import Derived.Test.YtbckijeffiofdaaG1
import Derived.Test.YtbckijeffiofdaaG2
import Derived.Test.YtbckijeffiofdaaALD
import Derived.Test.YtbckijeffiofdaaProg
import Derived.KernelRfl
namespace Go.Proofs.Ytbckijeffiofdaa.AL
open Go Go.RowKit
set_option linter.unusedVariables false
set_option linter.unusedSimpArgs false
set_option maxRecDepth 4096
attribute [local simp] n_fn b_add b_sub b_mul b_lt b_le b_gt b_ge b_eq b_ne u_not
end Go.Proofs.Ytbckijeffiofdaa.AL
