/- The walks of functions, each with its Lean function: slices.siftDownCmpFunc[[]int], slices.heapSortCmpFunc[[]int], slices.breakPatternsCmpFunc[[]int], slices.order2CmpFunc[[]int], slices.medianCmpFunc[[]int], slices.medianAdjacentCmpFunc[[]int], slices.choosePivotCmpFunc[[]int], slices.reverseRangeCmpFunc[[]int], slices.partialInsertionSortCmpFunc[[]int], slices.partitionEqualCmpFunc[[]int]. No condition. -/
import Derived.Test.YtdghlhdpcmemjaaFBD
import Derived.Test.YtdghlhdpcmemjaaFBE
import Derived.Test.YtdghlhdpcmemjaaG1
import Derived.Test.YtdghlhdpcmemjaaG2
import Derived.Test.YtdghlhdpcmemjaaG3
import Derived.Test.YtdghlhdpcmemjaaG4
import Derived.Test.YtdghlhdpcmemjaaG5
import Derived.Test.YtdghlhdpcmemjaaALD
import Derived.Test.YtdghlhdpcmemjaaProg
import Derived.KernelRfl
namespace Go.Proofs.Ytdghlhdpcmemjaa.AL
open Go Go.RowKit
set_option linter.unusedVariables false
set_option linter.unusedSimpArgs false
set_option maxRecDepth 4096

end Go.Proofs.Ytdghlhdpcmemjaa.AL
